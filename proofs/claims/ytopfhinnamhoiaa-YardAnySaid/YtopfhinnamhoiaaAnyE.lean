/- Walk: the law YardAny, where nothing is asked, and all together. -/
import Derived.Deep.DeepCutAuto
import Derived.Test.YtopfhinnamhoiaaAnyB
namespace Go.Proofs.Ytopfhinnamhoiaa
open Go.RowKit Go.Bs Go.Yd Go.Pl Go.Sort

set_option maxRecDepth 100000 in
set_option maxHeartbeats 4000000 in
theorem any_law (g : Gd) (A : Option Addr) (n cap : Nat) (Aw : Option Addr) (m cw : Nat) (words : List Int) (w : World) (hn : g.nodes.length = n) (hm : n ≤ 9223372036854775807) (hmw : words.length = m) (hm9 : m ≤ 9223372036854775807) (hw : ∀ x ∈ words, 0 ≤ x ∧ x ≤ 65535) (hd : GdAt w A g) (hdw : Cells w Aw 1 encU words) :
    Calls Try.prog 7 #[.agg #[.slice A n cap, .int .i64 g.limit], .slice Aw m cw] w fun e w' => e = .returned (.bool true) ∧ Below w.heap.size w w' := by
  have hb0 := ext_alloc w (.cells #[.slice A n cap, .int .i64 g.limit] 37)
  have hB := Blk.new w 37 [.slice A n cap, .int .i64 g.limit]
  have hwr := wires_any A n cap g.limit (w.alloc (.cells #[.slice A n cap, .int .i64 g.limit] 37)) hm
  by_cases h33 : n ≤ 33
  · rw [decide_eq_true h33] at hwr
    have Hwr := Lib.hid hwr
    clear hwr
    cases hv : g.okB
    · have Hv := Lib.hid hv
      clear hv hdw hw
      go_enter Try.func7, Try.ntmps7
      go_wp2_with fail
      refine Hwr.out.mono ?_; rintro e w1 ⟨rfl, hb1⟩
      have hb2 := ext_trans hb0 hb1
      have hB2 := hB.ext hb1
      have x0 : w1.cell? ⟨w.heap.size, 0, none⟩ = _ := hB2.cell rfl
      have x1 : w1.cell? ⟨w.heap.size, 1, none⟩ = _ := hB2.cell rfl
      go_wp2_with fail
      refine (RightGrid_any g A n cap w1 hn (by omega) (hd.ext hb2)).mono ?_; rintro e w2 ⟨rfl, hb3⟩
      rw [Hv.out]
      go_wp2_with fail
      refine (wakes_any _).mono ?_; rintro e w3 ⟨rfl, hb4⟩
      go_wp2
      go_ret
      exact ⟨rfl, ext_trans (ext_trans hb2 hb3) hb4⟩
    · by_cases hm0 : 0 < m
      · exact any_rest g ((Gd.okB_iff g).1 hv) words A n cap Aw m cw w hn hmw hm0 hm9 hw hd hdw hv
      · obtain rfl : m = 0 := by omega
        have Hv := Lib.hid hv
        clear hv hdw hw hm0
        go_enter Try.func7, Try.ntmps7
        go_wp2_with fail
        refine Hwr.out.mono ?_; rintro e w1 ⟨rfl, hb1⟩
        have hb2 := ext_trans hb0 hb1
        have hB2 := hB.ext hb1
        have x0 : w1.cell? ⟨w.heap.size, 0, none⟩ = _ := hB2.cell rfl
        have x1 : w1.cell? ⟨w.heap.size, 1, none⟩ = _ := hB2.cell rfl
        go_wp2_with fail
        refine (RightGrid_any g A n cap w1 hn (by omega) (hd.ext hb2)).mono ?_; rintro e w2 ⟨rfl, hb3⟩
        rw [Hv.out]
        go_wp2_with fail
        refine (wakes_any _).mono ?_; rintro e w3 ⟨rfl, hb4⟩
        go_wp2
        go_ret
        exact ⟨rfl, ext_trans (ext_trans hb2 hb3) hb4⟩
  · rw [decide_eq_false h33] at hwr
    have Hwr := Lib.hid hwr
    clear hwr hdw hw hd
    go_enter Try.func7, Try.ntmps7
    go_wp2_with fail
    refine Hwr.out.mono ?_; rintro e w1 ⟨rfl, hb1⟩
    go_wp2_with fail
    refine (wakes_any _).mono ?_; rintro e w2 ⟨rfl, hb2⟩
    go_wp2
    go_ret
    exact ⟨rfl, ext_trans (ext_trans hb0 hb1) hb2⟩
end Go.Proofs.Ytopfhinnamhoiaa

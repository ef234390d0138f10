/- The law of gaps: the least amount that cannot be given. -/
import Derived.Test.YtnjdlhhgnamigaaChgA
import Derived.Test.YtnjdlhhgnamigaaTilX
namespace Go.Proofs.Ytnjdlhhgnamigaa
open Go.RowKit Go.Bs Go.Pu Go.Pl Go.Sort
set_option maxRecDepth 100000 in
set_option maxHeartbeats 4000000 in
theorem gaps_law (t : Tl) (A B : Option Addr) (n c m d : Nat) (w : World) (hn : t.vals.length = n) (hm : t.cnts.length = m) (hA : Cells w A 1 encI t.vals) (hB : Cells w B 1 encI t.cnts) :
    Calls Try.prog 13 #[tlV A n c B m d] w fun e w' => e = .returned (.bool true) ∧ Below w.heap.size w w' := by
  have hbw0 := ext_alloc w (.cells #[.slice A n c, .slice B m d] 62)
  have hX0 := Blk.new w 62 [.slice A n c, .slice B m d]
  have hA0 := hA.ext hbw0
  have hB0 := hB.ext hbw0
  have CH := Lib.hid (fun W => thin_any A B n c m d W)
  have CT := Lib.hid (fun W h1 h2 hA hB => Till_put t A B n c m d W hn hm h1 h2 hA hB)
  have CG := Lib.hid (fun A B c d W h1 h2 hA hB => Gap_any t A B n c m d W hn hm h1 h2 hA hB)
  have CR := Lib.hid (fun W h1 h2 hA hB => RightT_any t A B n c m d W hn hm h1 h2 hA hB)
  have HR := Lib.hid fun (h : t.okB = true) => hm.symm.trans (((t.okB_iff).1 h).eq.trans hn)
  have Hn := Lib.hid hn
  have Hm := Lib.hid hm
  clear hA hB hn hm
  unfold tlV at *
  go_enter Try.func13, Try.ntmps13
  go_upto_region 1 with fail
  change Blk (w.alloc (.cells #[.slice A n c, .slice B m d] 62)) _ _ _ at hX0
  generalize w.alloc (.cells #[.slice A n c, .slice B m d] 62) = W0 at *
  have x0 : W0.cell? ⟨w.heap.size, 0, none⟩ = _ := hX0.cell (i := 0) rfl
  have x1 : W0.cell? ⟨w.heap.size, 1, none⟩ = _ := hX0.cell (i := 1) rfl
  go_wp2_with fail
  refine (CH.out _).mono ?_; rintro e W1 ⟨rfl, hb1⟩
  have hbw1 := ext_trans hbw0 hb1
  have hX1 := hX0.ext hb1
  have hA1 := hA0.ext hb1
  have hB1 := hB0.ext hb1
  clear hbw0 hb1 hX0 hA0 hB0
  clear x0 x1 CH
  by_cases h12 : ¬ (n ≤ 12 ∧ m ≤ 12)
  · have e0 : (decide (n ≤ 12) && decide (m ≤ 12)) = false := by simp only [Bool.and_eq_false_iff, decide_eq_false_iff_not]; omega
    rw [e0]
    go_wp2_with fail
    refine (awake_any _).mono ?_; rintro e wz ⟨rfl, hbz⟩
    go_wp2
    go_ret
    exact ⟨rfl, ext_trans hbw1 hbz⟩
  have h12 := Decidable.of_not_not h12
  have e0 : (decide (n ≤ 12) && decide (m ≤ 12)) = true := by simp [h12.1, h12.2]
  obtain ⟨hn12, hm12⟩ := h12
  rw [e0]
  clear e0
  have x0 : W1.cell? ⟨w.heap.size, 0, none⟩ = _ := hX1.cell (i := 0) rfl
  have x1 : W1.cell? ⟨w.heap.size, 1, none⟩ = _ := hX1.cell (i := 1) rfl
  go_wp2_with fail
  refine (CR.out _ (by omega) (by omega) hA1 hB1).mono ?_; rintro e W2 ⟨rfl, hb2⟩
  have hbw2 := ext_trans hbw1 hb2
  have hX2 := hX1.ext hb2
  have hA2 := hA1.ext hb2
  have hB2 := hB1.ext hb2
  clear hbw1 hb2 hX1 hA1 hB1
  clear x0 x1 CR
  cases hok : t.okB
  · have x0 : W2.cell? ⟨w.heap.size, 0, none⟩ = _ := hX2.cell (i := 0) rfl
    have x1 : W2.cell? ⟨w.heap.size, 1, none⟩ = _ := hX2.cell (i := 1) rfl
    go_wp2_with fail
    refine (CT.out _ (by omega) (by omega) hA2 hB2).mono ?_; rintro e W3 ⟨A3, c3, B3, d3, rfl, fa, fb, hb3⟩
    have hbw3 := ext_trans hbw2 hb3
    have hX3 := hX2.ext hb3
    have hA3 := hA2.ext hb3
    have hB3 := hB2.ext hb3
    clear hbw2 hb3 hX2 hA2 hB2
    clear x0 x1
    go_wp2_with fail
    refine (CG.out _ _ _ _ _ (by omega) (by omega) fa fb).mono ?_; rintro e W4 ⟨g, er, rfl, hd, hb4⟩
    have hbw4 := ext_trans hbw3 hb4
    rcases hd with ⟨-, rfl, rfl⟩ | ⟨h, -, -⟩
    rotate_left
    · rw [hok] at h; cases h
    clear hbw3 hb4 CG fa fb
    rw [show ((0 : Nat) : Int) = 0 from rfl]
    go_wp2_with fail
    refine (awake_any _).mono ?_; rintro e wz ⟨rfl, hbz⟩
    go_wp2
    go_ret
    exact ⟨rfl, ext_trans hbw4 hbz⟩
  obtain rfl : n = m := (HR.out hok).symm
  have hk := (t.okB_iff).1 hok
  have CW := Lib.hid (fun W hA hB => Worth_any t hk A B n c d B n d t.cnts W Hn.out Hm.out hA hB hB (by omega))
  rw [Tl.worth_self hk] at CW
  unfold tlV at CW
  clear HR
  have x0 : W2.cell? ⟨w.heap.size, 0, none⟩ = _ := hX2.cell (i := 0) rfl
  have x1 : W2.cell? ⟨w.heap.size, 1, none⟩ = _ := hX2.cell (i := 1) rfl
  go_wp2_with fail
  refine (CW.out _ hA2 hB2).mono ?_; rintro e W3 ⟨rfl, hb3⟩
  have hbw3 := ext_trans hbw2 hb3
  have hX3 := hX2.ext hb3
  have hA3 := hA2.ext hb3
  have hB3 := hB2.ext hb3
  clear hbw2 hb3 hX2 hA2 hB2
  clear x0 x1 CW
  by_cases h3000 : 3000 < t.whole
  · have h3000' : (3000 : Int) < (t.whole : Int) := by omega
    generalize t.whole = whole at *
    go_wp2_with fail
    refine (awake_any _).mono ?_; rintro e wz ⟨rfl, hbz⟩
    go_wp2
    go_ret
    exact ⟨rfl, ext_trans hbw3 hbz⟩
  have h3000' : ¬ (3000 : Int) < (t.whole : Int) := by omega
  have CQ := Lib.hid (fun W hA hB => GapR_any t hk A B n c d W Hn.out (by omega) hA hB)
  unfold tlV at CQ
  generalize t.whole = whole at *
  have x0 : W3.cell? ⟨w.heap.size, 0, none⟩ = _ := hX3.cell (i := 0) rfl
  have x1 : W3.cell? ⟨w.heap.size, 1, none⟩ = _ := hX3.cell (i := 1) rfl
  go_wp2_with fail
  refine (CT.out _ (by omega) (by omega) hA3 hB3).mono ?_; rintro e W4 ⟨A4, c4, B4, d4, rfl, fa, fb, hb4⟩
  have hbw4 := ext_trans hbw3 hb4
  have hX4 := hX3.ext hb4
  have hA4 := hA3.ext hb4
  have hB4 := hB3.ext hb4
  clear hbw3 hb4 hX3 hA3 hB3
  clear x0 x1
  go_wp2_with fail
  refine (CG.out _ _ _ _ _ (by omega) (by omega) fa fb).mono ?_; rintro e W5 ⟨g, er, rfl, hd, hb5⟩
  have hbw5 := ext_trans hbw4 hb5
  have hX5 := hX4.ext hb5
  have hA5 := hA4.ext hb5
  have hB5 := hB4.ext hb5
  clear hbw4 hb5 hX4 hA4 hB4
  rcases hd with ⟨h, -, -⟩ | ⟨-, rfl, hg⟩
  · rw [hok] at h; cases h
  have Hg := Lib.hid hg
  clear hg CG fa fb
  have x0 : W5.cell? ⟨w.heap.size, 0, none⟩ = _ := hX5.cell (i := 0) rfl
  have x1 : W5.cell? ⟨w.heap.size, 1, none⟩ = _ := hX5.cell (i := 1) rfl
  go_wp2_with fail
  refine (CQ.out _ hA5 hB5).mono ?_; rintro e W6 ⟨k, rfl, hq, hb6⟩
  have hbw6 := ext_trans hbw5 hb6
  obtain rfl : g = k := Hg.out.uniq hq
  clear hq Hg hbw5 hb6 CQ hX5 hA5 hB5 x0 x1
  go_wp2_with fail
  refine (awake_any _).mono ?_; rintro e wz ⟨rfl, hbz⟩
  go_wp2
  go_ret
  exact ⟨rfl, ext_trans hbw6 hbz⟩
end Go.Proofs.Ytnjdlhhgnamigaa

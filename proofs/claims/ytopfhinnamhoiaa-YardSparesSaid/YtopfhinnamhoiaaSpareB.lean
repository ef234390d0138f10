/- Walk: the reference's Spare, and the law YardSpares. -/
import Derived.Deep.DeepCutAuto
import Derived.Test.YtopfhinnamhoiaaGridR
namespace Go.Proofs.Ytopfhinnamhoiaa
open Go.RowKit Go.Bs Go.Yd Go.Pl Go.Sort

theorem half (a b : Int) (h0 : 0 ≤ a) (h1 : a < b) (_h2 : b ≤ 1000000) : (a + b + 1).tdiv 2 = (a + b + 1) / 2 ∧ a < (a + b + 1) / 2 ∧ (a + b + 1) / 2 ≤ b :=
  ⟨Int.tdiv_eq_ediv_of_nonneg (by omega), by omega, by omega⟩

set_option maxRecDepth 100000 in
set_option maxHeartbeats 4000000 in
theorem SpareR_any (g : Gd) (A : Option Addr) (n cap x : Nat) (w : World) (hok : g.ok) (hf : Gd.fineB g = true) (hn : g.nodes.length = n) (hx : x < n) (hd : GdAt w A g) :
    Calls Try.prog 29 #[.agg #[.slice A n cap, .int .i64 g.limit], .int .i64 x] w fun e w' => e = .returned (.int .i64 (Gd.spare g x)) ∧ Below w.heap.size w w' := by
  have hb0 := ext_alloc w (.cells #[.slice A n cap, .int .i64 g.limit] 37)
  have hB := Blk.new w 37 [.slice A n cap, .int .i64 g.limit]
  have hsb := Gd.spare_bd hok hf (x := x) (by omega)
  have Hfm := Lib.hid (fun (m : Int) (hm : 0 ≤ m ∧ m ≤ 1000000) => Gd.fine_more hok hf (x := x) (by omega) hm)
  have Hfit := Lib.hid (fun (m : Int) (hm : 0 ≤ m ∧ m ≤ 1000000) => Gd.more_fit hok (x := x) (by omega) hm)
  have Hn := Lib.hid hn
  generalize Gd.spare g x = sp at *
  go_enter Try.func29, Try.ntmps29
  go_upto_region 1 with fail
  change Blk (w.alloc (.cells #[.slice A n cap, .int .i64 g.limit] 37)) w.heap.size 37 [.slice A n cap, .int .i64 g.limit] at hB
  generalize w.alloc (.cells #[.slice A n cap, .int .i64 g.limit] 37) = W0 at *
  go_wp2
  go_loopw [5, 6] (fun u v wr => ∃ a b : Int, u = .int .i64 a ∧ v = .int .i64 b ∧ (0 ≤ a ∧ a ≤ sp ∧ sp ≤ b ∧ b ≤ 1000000) ∧ Below w.heap.size w wr ∧ Blk wr w.heap.size 37 [.slice A n cap, .int .i64 g.limit]) (fun u v _ => (intOf v - intOf u).toNat)
  case atStart => exact ⟨0, 1000000, rfl, rfl, by omega, hb0, hB⟩
  case round =>
    clear hb0 hB
    obtain ⟨a, b, rfl, rfl, hab, hb, hB⟩ := hrel
    have x0 : wr.cell? ⟨w.heap.size, 0, none⟩ = _ := hB.cell rfl
    have x1 : wr.cell? ⟨w.heap.size, 1, none⟩ = _ := hB.cell rfl
    by_cases hlt : a < b
    · obtain ⟨hq, hm1, hm2⟩ := half a b hab.1 hlt hab.2.2.2
      generalize (a + b + 1) / 2 = m at *
      go_upto_region 4 with fail
      clear hq
      go_wp2_with fail
      refine (With_any g A n cap x m wr hok Hn.out hx (by omega) (hd.ext hb)).mono ?_
      rintro e w1 ⟨v, rfl, hv, hb1⟩
      obtain ⟨A1, c1, rfl, hc1, -, hC, -⟩ := hv
      rw [Gd.more_len, Hn.out] at hc1 ⊢
      have hb2 := ext_trans hb hb1
      have hB2 := hB.ext hb1
      have Hfb := Lib.hid (Hfm.out m (by omega))
      clear hb hb1 hB x0 x1
      go_wp2_with fail
      refine (FineR_any (Gd.more g x m) (Hfit.out m (by omega)) A1 n c1 w1 (by rw [Gd.more_len]; exact Hn.out) hC).mono ?_
      rintro e w2 ⟨rfl, hb3⟩
      have hb4 := ext_trans hb2 hb3
      have hB4 := hB2.ext hb3
      generalize Gd.fineB (Gd.more g x m) = p at *
      cases p
      · have h1 := Hfb.out
        have h2 : ¬ m ≤ sp := fun h => by have := h1.2 h; cases this
        clear h1
        go_wp2
        go_roundw
        case rel => exact ⟨a, m - 1, rfl, rfl, by omega, hb4, hB4⟩
        case measure => simp [intOf]; omega
      · have h1 := Hfb.out
        have h2 : m ≤ sp := h1.1 rfl
        clear h1
        go_wp2
        go_roundw
        case rel => exact ⟨m, b, rfl, rfl, by omega, hb4, hB4⟩
        case measure => simp [intOf]; omega
    · have e1 : a = sp := by omega
      have hge : b ≤ a := by omega
      clear hlt
      subst e1
      go_wp2
      go_ret
      exact ⟨rfl, hb⟩

set_option maxRecDepth 100000 in
set_option maxHeartbeats 4000000 in
theorem spares_any (g : Gd) (A : Option Addr) (n cap : Nat) (x : Int) (w : World) (hn : g.nodes.length = n) (hm : n ≤ 9223372036854775807) (hd : GdAt w A g) :
    Calls Try.prog 4 #[.agg #[.slice A n cap, .int .i64 g.limit], .int .i64 x] w fun e w' => e = .returned (.bool true) ∧ Below w.heap.size w w' := by
  have hb0 := ext_alloc w (.cells #[.slice A n cap, .int .i64 g.limit] 37)
  have hB := Blk.new w 37 [.slice A n cap, .int .i64 g.limit]
  have Hn := Lib.hid hn
  have hwr := wires_any A n cap g.limit (w.alloc (.cells #[.slice A n cap, .int .i64 g.limit] 37)) hm
  by_cases h33 : n ≤ 33
  · rw [decide_eq_true h33] at hwr
    have Hwr := Lib.hid hwr
    clear hwr
    go_enter Try.func4, Try.ntmps4
    go_wp2_with fail
    refine Hwr.out.mono ?_; rintro e w1 ⟨rfl, hb1⟩
    have hb2 := ext_trans hb0 hb1
    have hB2 := hB.ext hb1
    have x0 : w1.cell? ⟨w.heap.size, 0, none⟩ = _ := hB2.cell rfl
    have x1 : w1.cell? ⟨w.heap.size, 1, none⟩ = _ := hB2.cell rfl
    clear hb0 hb1 hB Hwr
    go_wp2_with fail
    refine (Grid_any g A n cap w1 hn (by omega) (hd.ext hb2)).mono ?_; rintro e w2 ⟨v, rfl, hv, hb3⟩
    obtain ⟨A1, c1, rfl, hc1, -, hC, -⟩ := hv
    rw [hn] at hc1 ⊢
    have hb4 := ext_trans hb2 hb3
    have hB4 := hB2.ext hb3
    clear hb2 hb3 hB2 x0 x1
    go_wp2_with fail
    refine (Spare_any g A1 n c1 x w2 hn (by omega) hc1 hC).mono ?_; rintro e w3 ⟨rfl, hb5⟩
    obtain ⟨r0, r1, hR⟩ : ∃ r0 r1, spareR g x = (r0, r1) := ⟨_, _, rfl⟩
    rw [hR]
    have HR := Lib.hid hR
    have hb6 := ext_trans hb4 hb5
    have hB6 := hB4.ext hb5
    have x0 : w3.cell? ⟨w.heap.size, 0, none⟩ = _ := hB6.cell rfl
    have x1 : w3.cell? ⟨w.heap.size, 1, none⟩ = _ := hB6.cell rfl
    clear hb4 hb5 hB4 hC hR
    go_wp2_with fail
    refine (RightGrid_any g A n cap w3 hn (by omega) (hd.ext hb6)).mono ?_; rintro e w4 ⟨rfl, hb7⟩
    have hb8 := ext_trans hb6 hb7
    have hB8 := hB6.ext hb7
    have x2 : w4.cell? ⟨w.heap.size, 0, none⟩ = _ := hB8.cell rfl
    have x3 : w4.cell? ⟨w.heap.size, 1, none⟩ = _ := hB8.cell rfl
    clear hb6 hb7 hB6 x0 x1
    cases hv : g.okB
    · have hr : spareR g x = (0, 1) := by unfold spareR; rw [hv]; rfl
      rw [HR.out] at hr
      cases hr
      clear hv
      go_wp2_with fail
      refine (wakes_any _).mono ?_; rintro e w9 ⟨rfl, hb9⟩
      go_wp2
      go_ret
      exact ⟨rfl, ext_trans hb8 hb9⟩
    · have hok := (Gd.okB_iff g).1 hv
      by_cases hx : 0 ≤ x ∧ x ≤ (n : Int) - 1
      · have C1 := Lib.hid (In_t hx)
        have hr : spareR g x = if Gd.bad g then (0, 9) else (Gd.spare g x.toNat, 0) := by unfold spareR; rw [hv, hn, if_pos hx]; rfl
        rw [HR.out] at hr
        obtain ⟨i, rfl⟩ := Int.eq_ofNat_of_zero_le hx.1
        have hi : i < n := by omega
        have hfb := Gd.not_bad_iff hok
        rw [Int.toNat_natCast] at hr
        clear hv hx
        cases hbd : Gd.bad g
        · have hfine := hfb.1 hbd
          rw [hbd] at hr
          cases hr
          have Hfine := Lib.hid hfine
          clear hbd hfb hfine
          go_wp2_with fail
          refine (C1.out _).mono ?_; rintro e w5 ⟨rfl, rfl⟩
          go_wp2_with fail
          refine (FineR_any g (Gd.ok_fit hok) A n cap w4 hn (hd.ext hb8)).mono ?_; rintro e w6 ⟨rfl, hb9⟩
          rw [Hfine.out]
          have hb10 := ext_trans hb8 hb9
          have hB10 := hB8.ext hb9
          have y0 : w6.cell? ⟨w.heap.size, 0, none⟩ = _ := hB10.cell rfl
          have y1 : w6.cell? ⟨w.heap.size, 1, none⟩ = _ := hB10.cell rfl
          clear hb8 hb9 hB8 x2 x3
          go_wp2_with fail
          refine (SpareR_any g A n cap i w6 hok Hfine.out hn hi (hd.ext hb10)).mono ?_; rintro e w7 ⟨rfl, hb11⟩
          go_wp2_with fail
          refine (wakes_any _).mono ?_; rintro e w9 ⟨rfl, hb12⟩
          go_wp2
          go_ret
          exact ⟨rfl, ext_trans (ext_trans hb10 hb11) hb12⟩
        · have hfine : Gd.fineB g = false := by
            cases hq : Gd.fineB g
            · rfl
            · have := hfb.2 hq; rw [hbd] at this; cases this
          rw [hbd] at hr
          cases hr
          have Hfine := Lib.hid hfine
          clear hbd hfb hfine
          go_wp2_with fail
          refine (C1.out _).mono ?_; rintro e w5 ⟨rfl, rfl⟩
          go_wp2_with fail
          refine (FineR_any g (Gd.ok_fit hok) A n cap w4 hn (hd.ext hb8)).mono ?_; rintro e w6 ⟨rfl, hb9⟩
          rw [Hfine.out]
          go_wp2_with fail
          refine (wakes_any _).mono ?_; rintro e w9 ⟨rfl, hb12⟩
          go_wp2
          go_ret
          exact ⟨rfl, ext_trans (ext_trans hb8 hb9) hb12⟩
      · have C1 := Lib.hid (In_f hx)
        have hr : spareR g x = (0, 2) := by unfold spareR; rw [hv, hn, if_neg hx]; rfl
        rw [HR.out] at hr
        cases hr
        clear hv hx
        go_wp2_with fail
        refine (C1.out _).mono ?_; rintro e w5 ⟨rfl, rfl⟩
        go_wp2_with fail
        refine (wakes_any _).mono ?_; rintro e w9 ⟨rfl, hb9⟩
        go_wp2
        go_ret
        exact ⟨rfl, ext_trans hb8 hb9⟩
  · rw [decide_eq_false h33] at hwr
    have Hwr := Lib.hid hwr
    clear hwr hd hn
    go_enter Try.func4, Try.ntmps4
    go_wp2_with fail
    refine Hwr.out.mono ?_; rintro e w1 ⟨rfl, hb1⟩
    go_wp2_with fail
    refine (wakes_any _).mono ?_; rintro e w2 ⟨rfl, hb2⟩
    go_wp2
    go_ret
    exact ⟨rfl, ext_trans (ext_trans hb0 hb1) hb2⟩
end Go.Proofs.Ytopfhinnamhoiaa

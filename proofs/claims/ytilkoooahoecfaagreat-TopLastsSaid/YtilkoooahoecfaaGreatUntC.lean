/- Walk: rigging.Until for one gear and one entry. -/
import Derived.Test.YtilkoooahoecfaaGreatUntB
namespace Go.Proofs.YtilkoooahoecfaaGreat.Rg
open Go.RowKit Go.Bs Go.Pl Go.Sort Go.Rg
theorem unt_test {d h r : Int} (hd : 0 ≤ d) {j : Nat} (hj : j ≤ untD d h r) : decide (d < (j : Int) ∨ h < ((j : Int) + 1) * r) = decide (j = untD d h r) := by
  obtain ⟨h1, h2⟩ := untD_spec (h := h) (r := r) hd
  by_cases e : j = untD d h r
  · rw [decide_eq_true e]
    subst e
    exact decide_eq_true h2
  · rw [decide_eq_false e]
    have := h1 j (by omega)
    exact decide_eq_false (by omega)
set_option maxRecDepth 100000 in
set_option maxHeartbeats 2000000 in
theorem until_any (g e cE : Nat) (d h day r : Int) (w : World) (hd : 1 ≤ d ∧ d ≤ 2000) (hh : 1 ≤ h ∧ h ≤ 20000) (hday : 0 ≤ day ∧ day ≤ 10000) (hr : 0 ≤ r ∧ r ≤ 24) (hG : Blk w g 42 [.int .i64 d, .int .i64 h])
    (he : w.cell? ⟨e, 0, none⟩ = some (.int .i64 day) ∧ w.cell? ⟨e, 1, none⟩ = some (.int .i64 0) ∧ w.cell? ⟨e, 2, none⟩ = some (.int .i64 0) ∧ w.cell? ⟨e, 3, none⟩ = some (.bool true)) :
    Calls Tryz.prog 10 #[.slice (some ⟨g, 0, none⟩) 1 1, .slice (some ⟨e, 0, none⟩) 1 cE, .int .i64 0, .int .i64 day, .int .i64 r] w fun x w' => x = .returned (.tuple #[.int .i64 (day + untD d h r), .int .i64 0]) ∧ Below w.heap.size w w' := by
  have CC := Lib.hid (checklog_any g e cE d h day w hd hh hday hG he)
  have C0 := Lib.hid (fun V => rwithin_t (show (0 : Int) ≤ 0 ∧ (0 : Int) ≤ 0 by omega) V)
  have C1 := Lib.hid (fun V => rwithin_t hday V)
  have C2 := Lib.hid (fun V => rwithin_t hr V)
  have hu := untD_le (h := h) (r := r) (show 0 ≤ d by omega)
  have HT := Lib.hid (fun (j : Nat) (hj : j ≤ untD d h r) => unt_test (h := h) (r := r) (show 0 ≤ d by omega) hj)
  generalize untD d h r = u at *
  go_enter Tryz.func10, Tryz.ntmps10
  go_wp2_with fail
  refine CC.out.mono ?_; rintro x W1 ⟨rfl, hb1⟩
  go_wp2_with fail
  refine (C0.out _).mono ?_; rintro x w1 ⟨rfl, rfl⟩
  go_wp2_with fail
  refine (C1.out _).mono ?_; rintro x w1 ⟨rfl, rfl⟩
  go_wp2_with fail
  refine (C2.out _).mono ?_; rintro x w1 ⟨rfl, rfl⟩
  have hG1 := hG.ext hb1
  have CR := Lib.hid (record_any e cE d h day W1 ⟨cell_ext he.1 hb1, cell_ext he.2.1 hb1, cell_ext he.2.2.1 hb1, cell_ext he.2.2.2 hb1⟩)
  have g0 : W1.cell? ⟨g, 0, none⟩ = _ := hG1.cell (i := 0) rfl
  have g1 : W1.cell? ⟨g, 1, none⟩ = _ := hG1.cell (i := 1) rfl
  clear CC C0 C1 C2 hG he hG1
  go_wp2_with fail
  refine CR.out.mono ?_; rintro x W2 ⟨rfl, hb2⟩
  clear g0 g1 CR
  have hR := Blk.new W2 67 [.int .i64 d, .int .i64 h, .bool true, .int .i64 day, .int .i64 0]
  have x2 := ext_alloc W2 (.cells #[.int .i64 d, .int .i64 h, .bool true, .int .i64 day, .int .i64 0] 67)
  go_upto_region 7 with fail
  change Blk (W2.alloc (.cells #[.int .i64 d, .int .i64 h, .bool true, .int .i64 day, .int .i64 0] 67)) W2.heap.size _ _ at hR
  have hbw := ext_trans hb1 (ext_trans hb2 x2)
  generalize W2.alloc (.cells #[.int .i64 d, .int .i64 h, .bool true, .int .i64 day, .int .i64 0] 67) = W3 at *
  generalize W2.heap.size = R at *
  clear hb1 hb2 x2
  go_upto_block 0 with fail
  go_wp2
  go_loopw [14] (fun t wr => ∃ j : Nat, t = .int .i64 (day + j) ∧ j ≤ u ∧ Below W3.heap.size W3 wr) (fun t _ => u - (intOf t - day).toNat)
  case atStart => exact ⟨0, by simp, by omega, Below.refl _ _⟩
  case round =>
    obtain ⟨j, rfl, hj, hbr⟩ := hrel
    have hRw := hR.ext hbr
    have r0 : wr.cell? ⟨R, 0, none⟩ = _ := hRw.cell (i := 0) rfl
    have r1 : wr.cell? ⟨R, 1, none⟩ = _ := hRw.cell (i := 1) rfl
    have r2 : wr.cell? ⟨R, 2, none⟩ = _ := hRw.cell (i := 2) rfl
    have r3 : wr.cell? ⟨R, 3, none⟩ = _ := hRw.cell (i := 3) rfl
    have r4 : wr.cell? ⟨R, 4, none⟩ = _ := hRw.cell (i := 4) rfl
    obtain ⟨x, hx⟩ : ∃ x, ((j : Int) + 1) * r = x := ⟨_, rfl⟩
    have hxb : 0 ≤ x ∧ x ≤ 2002 * 24 := by
      have a1 : ((j : Int) + 1) * r ≤ ((j : Int) + 1) * 24 := Int.mul_le_mul_of_nonneg_left hr.2 (by omega)
      have a0 : 0 ≤ ((j : Int) + 1) * r := Int.mul_nonneg (by omega) hr.1
      omega
    have Ht := HT.out j hj
    rw [hx] at Ht
    obtain ⟨a, ha⟩ : ∃ a, a = day + (j : Int) := ⟨_, rfl⟩
    obtain ⟨j0, hj0⟩ : ∃ a : Int, a = (j : Int) := ⟨_, rfl⟩
    obtain ⟨j1, hj1⟩ : ∃ a : Int, a = (j : Int) + 1 := ⟨_, rfl⟩
    have hub : u ≤ 2001 := by omega
    have w1 : wrap64 (a - day) = j0 := by unfold wrap64; omega
    have w2 : wrap64 (j0 + 1) = j1 := by unfold wrap64; omega
    have w3 : wrap64 (j1 * r) = x := by rw [hj1, hx]; unfold wrap64; omega
    have w4 : wrap64 (a + 1) = a + 1 := by unfold wrap64; omega
    have CS0 := stale_any d h day a x wr (by omega) hday (by omega)
    rw [show a - day = (j : Int) by omega, Ht] at CS0
    rw [← ha]
    have Hj := Lib.hid hj
    have Ha := Lib.hid ha
    have Hu := Lib.hid hub
    clear hx Ht hRw ha hj0 hj1 hxb hj hub HT hu hd hh hday hr
    by_cases hju : j = u
    · rw [decide_eq_true hju] at CS0
      have CS := Lib.hid CS0
      have Hres := Lib.hid (show a = day + (u : Int) by rw [← hju]; exact Ha.out)
      clear CS0 hju Ha Hj Hu
      have hbf := ext_trans hbw hbr
      clear hbr hR hbw
      go_wp2_with fail
      refine CS.out.mono ?_; rintro x W4 ⟨rfl, hb4⟩
      go_wp2
      refine bodyPost_ret (v := .tuple #[.int .i64 a, .int .i64 0]) (by simp [results, Tryz.results10, go_sem]) rfl ?_
      exact ⟨by rw [Hres.out], ext_trans hbf hb4⟩
    · rw [decide_eq_false hju] at CS0
      have CS := Lib.hid CS0
      have Hju := Lib.hid hju
      clear CS0 hju
      go_wp2_with fail
      refine CS.out.mono ?_; rintro x W4 ⟨rfl, hb4⟩
      go_wp2
      go_roundw
      case rel => exact ⟨j + 1, congrArg (Value.int .i64) (by have := Ha.out; omega), by have := Hj.out; have := Hju.out; omega, ext_trans hbr hb4⟩
      case measure => simp [intOf]; have := Hj.out; have := Hju.out; have := Ha.out; omega
end Go.Proofs.YtilkoooahoecfaaGreat.Rg

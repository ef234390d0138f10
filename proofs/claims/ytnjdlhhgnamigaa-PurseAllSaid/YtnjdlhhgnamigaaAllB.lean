/- The law PurseAll: all is given out. -/
import Derived.Test.YtnjdlhhgnamigaaAwB
import Derived.Test.YtnjdlhhgnamigaaSetW
import Derived.Test.YtnjdlhhgnamigaaSetH
namespace Go.Proofs.Ytnjdlhhgnamigaa
open Go.RowKit Go.Bs Go.Pu Go.Pl Go.Sort

def _root_.Go.Pu.Wk.gf (w : Wk) (i : Nat) : Int := (w.ctys.getD i default).gross
def _root_.Go.Pu.Wk.tf (w : Wk) (i : Nat) : Int := (w.ctys.getD i default).taxes
theorem gf_bd {w : Wk} (h : w.ok) {i : Nat} (hi : i < w.ctys.length) : (0 ≤ w.tf i ∧ w.tf i ≤ w.gf i) ∧ w.gf i ≤ 1000000000000000 := by
  have hc : (w.ctys.getD i default).ok := h.yok _ (by rw [List.getD_eq_getElem?_getD, List.getElem?_eq_getElem hi]; exact List.getElem_mem hi)
  exact ⟨hc.taxes, hc.gross.2⟩
theorem gf_sum {w : Wk} (h : w.ok) {k : Nat} (hk : k ≤ w.ctys.length) : (0 ≤ isum (tab k w.gf) ∧ isum (tab k w.gf) ≤ 8000000000000000) ∧ 0 ≤ isum (tab k w.tf) ∧ isum (tab k w.tf) ≤ 8000000000000000 := by
  have h1 := isum_tab_bd w.gf 1000000000000000 k (fun q hq => by have := gf_bd h (i := q) (by omega); omega)
  have h2 := isum_tab_bd w.tf 1000000000000000 k (fun q hq => by have := gf_bd h (i := q) (by omega); omega)
  have := h.n
  omega
theorem pd_sum {w : Wk} (h : w.ok) {k : Nat} (hk : k ≤ w.ctrs.length) : (0 ≤ isum (tab k w.paid) ∧ isum (tab k w.paid) ≤ 160000000000000000) ∧ 0 ≤ isum (tab k w.extra) ∧ isum (tab k w.extra) ≤ 160000000000000000 := by
  have h1 := isum_tab_bd w.paid 8000000000000000 k (fun q hq => by have h3 := (h.paid (i := q) (by omega)).1; have h4 := (h.ctrs (i := q) (by omega)).wg; omega)
  have h2 := isum_tab_bd w.extra 8000000000000000 k (fun q hq => (h.extra (i := q) (by omega)).2)
  have := h.m
  omega
theorem sum_gf (w : Wk) : isum (tab w.ctys.length w.gf) = isum w.settle.gross := by
  rw [show w.settle.gross = w.ctys.map Cty.gross from rfl, tab_map w.ctys Cty.gross default]; rfl
theorem sum_tf (w : Wk) : isum (tab w.ctys.length w.tf) = isum w.settle.taxes := by
  rw [show w.settle.taxes = w.ctys.map Cty.taxes from rfl, tab_map w.ctys Cty.taxes default]; rfl
set_option maxRecDepth 100000 in
set_option maxHeartbeats 4000000 in
theorem all_law (wk : Wk) (A B : Option Addr) (n c m d : Nat) (w : World) (hn : wk.ctys.length = n) (hm : wk.ctrs.length = m) (hA : Cells w A 4 Cty.enc wk.ctys) (hB : Cells w B 3 Ctr.enc wk.ctrs) (h1 : n ≤ 9223372036854775807) (h2 : m ≤ 9223372036854775807) :
    Calls Try.prog 5 #[wkV A n c wk.premium B m d] w fun e w' => e = .returned (.bool true) ∧ Below w.heap.size w w' := by
  have hb0 := ext_alloc w (.cells #[.slice A n c, .int .i64 wk.premium, .slice B m d] 25)
  have hX0 := Blk.new w 25 [.slice A n c, .int .i64 wk.premium, .slice B m d]
  have hA0 := hA.ext hb0
  have hB0 := hB.ext hb0
  have CW := Lib.hid (fun W h1 h2 hA hB => Week_put wk A B n c m d W hn hm h1 h2 hA hB)
  have CS := Lib.hid (fun A B c d W hA hB hok => settle_good wk A B n c m d W hn hm hA hB hok)
  have CR := Lib.hid (fun W hA hB => RightWeek_big wk A B n c m d W hn hm h1 h2 hA hB)
  clear hA hB
  have Hn := Lib.hid hn
  have Hm := Lib.hid hm
  clear hn hm
  unfold wkV at *
  unfold payV at *
  go_enter Try.func5, Try.ntmps5
  go_upto_region 1 with fail
  change Blk (w.alloc (.cells #[.slice A n c, .int .i64 wk.premium, .slice B m d] 25)) _ _ _ at hX0
  generalize w.alloc (.cells #[.slice A n c, .int .i64 wk.premium, .slice B m d] 25) = W0 at *
  have x0 : W0.cell? ⟨w.heap.size, 0, none⟩ = _ := hX0.cell (i := 0) rfl
  have x1 : W0.cell? ⟨w.heap.size, 1, none⟩ = _ := hX0.cell (i := 1) rfl
  have x2 : W0.cell? ⟨w.heap.size, 2, none⟩ = _ := hX0.cell (i := 2) rfl
  go_wp2_with fail
  refine (CR.out _ hA0 hB0).mono ?_; rintro e W1 ⟨rfl, hb1⟩
  have hbw1 := ext_trans hb0 hb1
  have hX1 := hX0.ext hb1
  have hA1 := hA0.ext hb1
  have hB1 := hB0.ext hb1
  clear hb0 hb1 hX0 hA0 hB0 CR x0 x1 x2
  cases hok : wk.okB
  · go_wp2_with fail
    refine (awake_any _).mono ?_; rintro e wz ⟨rfl, hbz⟩
    go_wp2
    go_ret
    exact ⟨rfl, ext_trans hbw1 hbz⟩
  have hk := (wk.okB_iff).1 hok
  have hn8 : n ≤ 8 := by rw [← Hn.out]; exact hk.n.2
  have hn1 : 1 ≤ n := by rw [← Hn.out]; exact hk.n.1
  have hm20 : m ≤ 20 := by rw [← Hm.out]; exact hk.m
  have CS1 := Lib.hid (fun A B c d W hA hB => CS.out A B c d W hA hB hok)
  clear CS
  have x0 : W1.cell? ⟨w.heap.size, 0, none⟩ = _ := hX1.cell (i := 0) rfl
  have x1 : W1.cell? ⟨w.heap.size, 1, none⟩ = _ := hX1.cell (i := 1) rfl
  have x2 : W1.cell? ⟨w.heap.size, 2, none⟩ = _ := hX1.cell (i := 2) rfl
  go_wp2_with fail
  refine (CW.out _ (by omega) (by omega) hA1 hB1).mono ?_; rintro e W2 ⟨A2, c2, B2, d2, rfl, fa, fb, -, -, hb2⟩
  have hbw2 := ext_trans hbw1 hb2
  have hX2 := hX1.ext hb2
  have hA2 := hA1.ext hb2
  have hB2 := hB1.ext hb2
  clear hbw1 hb2 hX1 hA1 hB1 CW x0 x1 x2
  go_wp2_with fail
  refine (CS1.out A2 B2 c2 d2 _ fa fb).mono ?_; rintro e W3 ⟨G1, z1, G2, z2, G3, z3, G4, z4, G5, z5, rfl, hP, hb3⟩
  have hbw3 := ext_trans hbw2 hb3
  have hX3 := hX2.ext hb3
  have hA3 := hA2.ext hb3
  have hB3 := hB2.ext hb3
  clear hbw2 hb3 hX2 hA2 hB2 CS1 fa fb
  have hprem := hk.prem
  have hpot := hk.pot
  have hrest := hk.rest
  have hprm := hk.pr
  have Hall := Lib.hid hk.all
  change Hid (isum wk.settle.gross - isum wk.settle.taxes - wk.prem - wk.settle.rest - isum wk.settle.paid - isum wk.settle.extra = 0) at Hall
  have hsg := hk.sums
  have hpd := hk.sum_paid
  have hlf := hk.left
  have hrb : wk.settle.rest ≤ 9000000000000000 := by
    have e : wk.settle.rest = wk.left - isum (tab wk.ctrs.length wk.extra) := rfl
    have := isum_nonneg (l := tab wk.ctrs.length wk.extra) (fun y hy => by obtain ⟨i, hi, rfl⟩ := mem_tab hy; exact (hk.extra hi).2.1)
    omega
  generalize wk.settle.rest = rest at *
  generalize hpr : wk.prem = prem at *
  generalize hlk : wk.premium - prem = lack at *
  have hlk2 : prem + lack = wk.premium := by omega
  clear hpr
  have hY := Blk.new W3 29 [.slice G1 n z1, .slice G2 n z2, .int .i64 prem, .int .i64 lack, .slice G3 m z3, .slice G4 m z4, .slice G5 m z5, .int .i64 rest]
  have hAl := ext_alloc W3 (.cells #[.slice G1 n z1, .slice G2 n z2, .int .i64 prem, .int .i64 lack, .slice G3 m z3, .slice G4 m z4, .slice G5 m z5, .int .i64 rest] 29)
  have hbw4 := ext_trans hbw3 hAl
  have hX4 := hX3.ext hAl
  have hB4 := hB3.ext hAl
  have hP4 := hP.ext hAl
  clear hbw3 hX3 hA3 hB3 hP hAl
  go_upto_region 4 with fail
  change Blk (W3.alloc (.cells #[.slice G1 n z1, .slice G2 n z2, .int .i64 prem, .int .i64 lack, .slice G3 m z3, .slice G4 m z4, .slice G5 m z5, .int .i64 rest] 29)) _ _ _ at hY
  generalize W3.heap.size = Y at *
  generalize W3.alloc (.cells #[.slice G1 n z1, .slice G2 n z2, .int .i64 prem, .int .i64 lack, .slice G3 m z3, .slice G4 m z4, .slice G5 m z5, .int .i64 rest] 29) = W4 at *
  have x0 : W4.cell? ⟨w.heap.size, 0, none⟩ = _ := hX4.cell (i := 0) rfl
  have x1 : W4.cell? ⟨w.heap.size, 1, none⟩ = _ := hX4.cell (i := 1) rfl
  have x2 : W4.cell? ⟨w.heap.size, 2, none⟩ = _ := hX4.cell (i := 2) rfl
  have y0 : W4.cell? ⟨Y, 0, none⟩ = _ := hY.cell (i := 0) rfl
  have y1 : W4.cell? ⟨Y, 1, none⟩ = _ := hY.cell (i := 1) rfl
  have y2 : W4.cell? ⟨Y, 2, none⟩ = _ := hY.cell (i := 2) rfl
  have y3 : W4.cell? ⟨Y, 3, none⟩ = _ := hY.cell (i := 3) rfl
  have y4 : W4.cell? ⟨Y, 4, none⟩ = _ := hY.cell (i := 4) rfl
  have y5 : W4.cell? ⟨Y, 5, none⟩ = _ := hY.cell (i := 5) rfl
  have y6 : W4.cell? ⟨Y, 6, none⟩ = _ := hY.cell (i := 6) rfl
  have y7 : W4.cell? ⟨Y, 7, none⟩ = _ := hY.cell (i := 7) rfl
  have g1 : ¬ rest < 0 := by omega
  have g2 : ¬ prem < 0 := by omega
  have g3 : ¬ lack < 0 := by omega
  go_wp2
  clear x0 x1 x2 y0 y1 y2 y3 y4 y5 y6 y7 g1 g2 g3
  go_loopw [5, 6] (fun s x wr => ∃ (k : Nat) (S : Int), s = .int .i64 S ∧ x = .int .i64 k ∧ k ≤ n ∧ Hid (S = -prem - rest + (isum (tab k wk.gf) - isum (tab k wk.tf))) ∧ Below W4.heap.size W4 wr) (fun _ x _ => n - (intOf x).toNat)
  case atStart => exact ⟨0, _, rfl, rfl, by omega, Lib.hid (by simp [tab, isum]), Below.refl _ _⟩
  case round =>
    obtain ⟨k, S, rfl, rfl, hkn, HS, hb⟩ := hrel
    have yy : wr.cell? ⟨Y, 0, none⟩ = _ := (hY.ext hb).cell (i := 0) rfl
    by_cases hlt : k < n
    · have hlt' : (k : Int) < n := by omega
      have kc : k < wk.ctys.length := by rw [Hn.out]; exact hlt
      have hc1 := gf_bd hk kc
      have hs1 := gf_sum hk (k := k) (by omega)
      have hS : -20000000000000000 ≤ S ∧ S ≤ 20000000000000000 := by have := HS.out; omega
      have HS2 := Lib.hid (show S + (wk.gf k - wk.tf k) = -prem - rest + (isum (tab (k + 1) wk.gf) - isum (tab (k + 1) wk.tf)) by rw [isum_tab_snoc, isum_tab_snoc]; have := HS.out; omega)
      clear HS hs1
      have q1 : ¬ wk.tf k < 0 := by omega
      have q2 : ¬ wk.gf k < wk.tf k := by omega
      go_upto_region 10 with fail
      clear yy
      refine Dr.wp_region_plan 19 [] (.q [0, 1, 2, 3, 4, 5, 6, 7, 8, 9, 10, 11, 12, 13, 14, 15, 16, 17, 18] .done) (by kernel_rfl) (by kernel_rfl) ?_
      have hb2 := hb.drew
      clear hb
      generalize World.drew _ = V at *
      obtain ⟨o1, p1, rfl, d1⟩ := (hP4.ext hb2).at_t kc
      obtain ⟨o2, p2, rfl, d2⟩ := (hP4.ext hb2).at_g kc
      change V.cell? ⟨o1, p1 + k, none⟩ = some (.int .i64 (wk.tf k)) at d1
      change V.cell? ⟨o2, p2 + k, none⟩ = some (.int .i64 (wk.gf k)) at d2
      generalize wk.tf k = a1 at *
      generalize wk.gf k = a2 at *
      have u1 := Dr.cell0 d1
      have u2 := Dr.cell0 d2
      have y0 := Dr.cell0 ((hY.ext hb2).cell (i := 0) rfl)
      have y1 := Dr.cell0 ((hY.ext hb2).cell (i := 1) rfl)
      refine Dr.plan_q (l := [_, _, _, _, _, _, _, _, _, _, _, _, _, _, _, _, _, _, _]) rfl (fun K hK => ?_)
      iterate 19 (go_big_quiet_step (fail))
      refine wpQuiet_nil (hK _ ?_); clear hK K
      refine Dr.plan_end rfl ?_
      clear u1 u2 y0 y1
      go_upto_region 12 with fail
      refine Dr.wp_region_plan 14 [] (.q [0, 1, 2, 3, 4, 5, 6, 7, 8, 9, 10, 11, 12, 13] .done) (by kernel_rfl) (by kernel_rfl) ?_
      have hb3 := hb2.drew
      have d3 : (World.drew V).cell? ⟨o1, p1 + k, none⟩ = some (.int .i64 a1) := d1
      have d4 : (World.drew V).cell? ⟨o2, p2 + k, none⟩ = some (.int .i64 a2) := d2
      clear d1 d2 hb2
      generalize World.drew _ = V2 at *
      have u1 := Dr.cell0 d3
      have u2 := Dr.cell0 d4
      have y0 := Dr.cell0 ((hY.ext hb3).cell (i := 0) rfl)
      have y1 := Dr.cell0 ((hY.ext hb3).cell (i := 1) rfl)
      refine Dr.plan_q (l := [_, _, _, _, _, _, _, _, _, _, _, _, _, _]) rfl (fun K hK => ?_)
      iterate 14 (go_big_quiet_step (fail))
      refine wpQuiet_nil (hK _ ?_); clear hK K
      refine Dr.plan_end rfl ?_
      clear u1 u2 y0 y1
      go_wp2
      go_roundw
      case rel => exact ⟨k + 1, _, rfl, by go_num, by omega, HS2, hb3⟩
      case measure => simp [intOf]; omega
    · obtain rfl : k = n := by omega
      have HS1 := Lib.hid (show S = -prem - rest + (isum (tab wk.ctys.length wk.gf) - isum (tab wk.ctys.length wk.tf)) by rw [Hn.out]; exact HS.out)
      have hs1 := gf_sum hk (k := wk.ctys.length) (Nat.le_refl _)
      have hS : -20000000000000000 ≤ S ∧ S ≤ 20000000000000000 := by have := HS1.out; omega
      have hbw5 := ext_trans hbw4 hb
      have hX5 := hX4.ext hb
      have hB5 := hB4.ext hb
      have hP5 := hP4.ext hb
      have hY5 := hY.ext hb
      clear HS hs1 hbw4 hX4 hB4 hP4 hY hb
      go_wp2
      clear yy
      generalize wr = W5 at *
      go_loopw [5, 7] (fun s x wr => ∃ (j : Nat) (T : Int), s = .int .i64 T ∧ x = .int .i64 j ∧ j ≤ m ∧ Hid (T = S - (isum (tab j wk.paid) + isum (tab j wk.extra))) ∧ Below W5.heap.size W5 wr) (fun _ x _ => m - (intOf x).toNat)
      case atStart => exact ⟨0, _, rfl, rfl, by omega, Lib.hid (by simp [tab, isum]), Below.refl _ _⟩
      case round =>
        obtain ⟨j, T, rfl, rfl, hjm, HT, hb⟩ := hrel
        have yy : wr.cell? ⟨Y, 4, none⟩ = _ := (hY5.ext hb).cell (i := 4) rfl
        by_cases hlt : j < m
        · have hlt' : (j : Int) < m := by omega
          have jc : j < wk.ctrs.length := by rw [Hm.out]; exact hlt
          have hs1 := pd_sum hk (k := j) (by omega)
          have hp1 := (hk.paid jc).1
          have hw1 := (hk.ctrs jc).wg
          have hx1 := (hk.extra jc).2
          have hT : -400000000000000000 ≤ T ∧ T ≤ 400000000000000000 := by have := HT.out; omega
          have HT2 := Lib.hid (show T - (wk.paid j + wk.extra j) = S - (isum (tab (j + 1) wk.paid) + isum (tab (j + 1) wk.extra)) by rw [isum_tab_snoc, isum_tab_snoc]; have := HT.out; omega)
          clear HT hs1
          have hsw : wk.paid j + ((ctr wk j).wage - wk.paid j) = (ctr wk j).wage := by omega
          go_upto_region 16 with fail
          clear yy
          refine Dr.wp_region_plan 42 [] (.q [0, 1, 2, 3, 4, 5, 6, 7, 8, 9, 10, 11, 12, 13, 14, 15, 16, 17, 18, 19, 20, 21, 22, 23] (.q [24, 25, 26, 27, 28, 29, 30, 31, 32, 33, 34, 35, 36, 37, 38, 39, 40, 41] .done)) (by kernel_rfl) (by kernel_rfl) ?_
          have hb2 := hb.drew
          clear hb
          generalize World.drew _ = V at *
          obtain ⟨o1, p1, rfl, d1⟩ := (hP5.ext hb2).at_p jc
          obtain ⟨o2, p2, rfl, d2⟩ := (hP5.ext hb2).at_s jc
          obtain ⟨o3, p3, rfl, d3⟩ := (hP5.ext hb2).at_x jc
          obtain ⟨o4, p4, rfl, -, d4, -⟩ := ctr_at (hB5.ext hb2) jc
          generalize (ctr wk j).wage = a4 at *
          generalize wk.paid j = a1 at *
          generalize wk.extra j = a3 at *
          generalize he : a4 - a1 = a2 at *
          have q1 : ¬ a1 < 0 := by omega
          have q2 : ¬ a2 < 0 := by omega
          have q3 : ¬ a3 < 0 := by omega
          clear he
          have u1 := Dr.cell0 d1
          have u2 := Dr.cell0 d2
          have u3 := Dr.cell0 d3
          have u4 := Dr.cell0 d4
          have x2 := Dr.cell0 ((hX5.ext hb2).cell (i := 2) rfl)
          have y4 := Dr.cell0 ((hY5.ext hb2).cell (i := 4) rfl)
          have y5 := Dr.cell0 ((hY5.ext hb2).cell (i := 5) rfl)
          have y6 := Dr.cell0 ((hY5.ext hb2).cell (i := 6) rfl)
          refine Dr.plan_q (l := [_, _, _, _, _, _, _, _, _, _, _, _, _, _, _, _, _, _, _, _, _, _, _, _]) rfl (fun K hK => ?_)
          iterate 24 (go_big_quiet_step (fail))
          refine wpQuiet_nil (hK _ ?_); clear hK K
          refine Dr.plan_q (l := [_, _, _, _, _, _, _, _, _, _, _, _, _, _, _, _, _, _]) rfl (fun K hK => ?_)
          iterate 18 (go_big_quiet_step (fail))
          refine wpQuiet_nil (hK _ ?_); clear hK K
          refine Dr.plan_end rfl ?_
          clear u1 u2 u3 u4 x2 y4 y5 y6
          go_upto_region 18 with fail
          refine Dr.wp_region_plan 14 [] (.q [0, 1, 2, 3, 4, 5, 6, 7, 8, 9, 10, 11, 12, 13] .done) (by kernel_rfl) (by kernel_rfl) ?_
          have hb3 := hb2.drew
          have d5 : (World.drew V).cell? ⟨o1, p1 + j, none⟩ = some (.int .i64 a1) := d1
          have d6 : (World.drew V).cell? ⟨o3, p3 + j, none⟩ = some (.int .i64 a3) := d3
          clear d1 d2 d3 d4 hb2
          generalize World.drew _ = V2 at *
          have u1 := Dr.cell0 d5
          have u3 := Dr.cell0 d6
          have y4 := Dr.cell0 ((hY5.ext hb3).cell (i := 4) rfl)
          have y6 := Dr.cell0 ((hY5.ext hb3).cell (i := 6) rfl)
          refine Dr.plan_q (l := [_, _, _, _, _, _, _, _, _, _, _, _, _, _]) rfl (fun K hK => ?_)
          iterate 14 (go_big_quiet_step (fail))
          refine wpQuiet_nil (hK _ ?_); clear hK K
          refine Dr.plan_end rfl ?_
          clear u1 u3 y4 y6
          go_wp2
          go_roundw
          case rel => exact ⟨j + 1, _, rfl, by go_num, by omega, HT2, hb3⟩
          case measure => simp [intOf]; omega
        · obtain rfl : j = m := by omega
          obtain rfl : T = 0 := by
            have h1 := HT.out
            have h2 := HS1.out
            have h3 := Hall.out
            rw [← Hm.out] at h1
            rw [sum_gf, sum_tf] at h2
            change isum wk.settle.gross - isum wk.settle.taxes - prem - rest - isum (tab wk.ctrs.length wk.paid) - isum (tab wk.ctrs.length wk.extra) = 0 at h3
            omega
          go_wp2_with fail
          refine (awake_any _).mono ?_; rintro e wz ⟨rfl, hbz⟩
          go_wp2
          go_ret
          exact ⟨rfl, ext_trans (ext_trans hbw5 hb) hbz⟩
end Go.Proofs.Ytnjdlhhgnamigaa

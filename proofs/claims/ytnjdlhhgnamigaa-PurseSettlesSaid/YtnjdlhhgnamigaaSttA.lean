/- The law of Settle: what a week pays. -/
import Derived.Test.YtnjdlhhgnamigaaAwB
import Derived.Test.YtnjdlhhgnamigaaSetU
import Derived.Test.YtnjdlhhgnamigaaSetH
namespace Go.Proofs.Ytnjdlhhgnamigaa
open Go.RowKit Go.Bs Go.Pu Go.Pl Go.Sort
set_option maxRecDepth 100000 in
set_option maxHeartbeats 4000000 in
theorem settles_law (wk : Wk) (A B : Option Addr) (n c m d : Nat) (w : World) (hn : wk.ctys.length = n) (hm : wk.ctrs.length = m) (hA : Cells w A 4 Cty.enc wk.ctys) (hB : Cells w B 3 Ctr.enc wk.ctrs) :
    Calls Try.prog 3 #[wkV A n c wk.premium B m d] w fun e w' => e = .returned (.bool true) ∧ Below w.heap.size w w' := by
  have hb0 := ext_alloc w (.cells #[.slice A n c, .int .i64 wk.premium, .slice B m d] 25)
  have hX0 := Blk.new w 25 [.slice A n c, .int .i64 wk.premium, .slice B m d]
  have hA0 := hA.ext hb0
  have hB0 := hB.ext hb0
  have CW := Lib.hid (fun W h1 h2 hA hB => Week_put wk A B n c m d W hn hm h1 h2 hA hB)
  have CS := Lib.hid (fun A B c d W h1 h2 hA hB => settle_any wk A B n c m d W hn hm h1 h2 hA hB)
  have CR := Lib.hid (fun W h1 h2 hA hB => RightWeek_any wk A B n c m d W hn hm h1 h2 hA hB)
  have CQ := Lib.hid (fun W hA hB hok => SettleR_any wk A B n c m d W hn hm hA hB hok)
  have Hsm := Lib.hid (pay_small wk)
  generalize hres : settleR wk = res at *
  have Hres := Lib.hid hres
  clear hres hA hB
  have Hn := Lib.hid hn
  have Hm := Lib.hid hm
  clear hn hm
  obtain ⟨ps, er⟩ := res
  simp only at CS
  unfold wkV at *
  go_enter Try.func3, Try.ntmps3
  go_upto_region 1 with fail
  change Blk (w.alloc (.cells #[.slice A n c, .int .i64 wk.premium, .slice B m d] 25)) _ _ _ at hX0
  generalize w.alloc (.cells #[.slice A n c, .int .i64 wk.premium, .slice B m d] 25) = W0 at *
  have x0 : W0.cell? ⟨w.heap.size, 0, none⟩ = _ := hX0.cell (i := 0) rfl
  have x1 : W0.cell? ⟨w.heap.size, 1, none⟩ = _ := hX0.cell (i := 1) rfl
  have x2 : W0.cell? ⟨w.heap.size, 2, none⟩ = _ := hX0.cell (i := 2) rfl
  by_cases h12 : 12 < n
  · have h12' : (12 : Int) < n := by omega
    go_wp2_with fail
    refine (awake_any _).mono ?_; rintro e wz ⟨rfl, hbz⟩
    go_wp2
    go_ret
    exact ⟨rfl, ext_trans hb0 hbz⟩
  have h12' : ¬ (12 : Int) < n := by omega
  by_cases h25 : 25 < m
  · have h25' : (25 : Int) < m := by omega
    go_wp2_with fail
    refine (awake_any _).mono ?_; rintro e wz ⟨rfl, hbz⟩
    go_wp2
    go_ret
    exact ⟨rfl, ext_trans hb0 hbz⟩
  have h25' : ¬ (25 : Int) < m := by omega
  go_wp2_with fail
  refine (CW.out _ (by omega) (by omega) hA0 hB0).mono ?_; rintro e W1 ⟨A1, c1, B1, d1, rfl, fa, fb, -, -, hb1⟩
  have hbw1 := ext_trans hb0 hb1
  have hX1 := hX0.ext hb1
  have hA1 := hA0.ext hb1
  have hB1 := hB0.ext hb1
  clear hb0 hb1 hX0 hA0 hB0 CW x0 x1 x2
  go_wp2_with fail
  refine (CS.out A1 B1 c1 d1 _ (by omega) (by omega) fa fb).mono ?_; rintro e W2 ⟨v2, rfl, hP, hb2⟩
  have hbw2 := ext_trans hbw1 hb2
  have hX2 := hX1.ext hb2
  have hA2 := hA1.ext hb2
  have hB2 := hB1.ext hb2
  clear hbw1 hb2 hX1 hA1 hB1 CS fa fb
  obtain ⟨G1, z1, G2, z2, G3, z3, G4, z4, G5, z5, rfl, q1, q2, q3, q4, q5⟩ := hP.ex
  clear q1 q2 q3 q4 q5
  unfold payV at *
  have hY := Blk.new W2 29 [.slice G1 ps.gross.length z1, .slice G2 ps.taxes.length z2, .int .i64 ps.premium, .int .i64 ps.lacks, .slice G3 ps.paid.length z3, .slice G4 ps.short.length z4, .slice G5 ps.extra.length z5, .int .i64 ps.rest]
  have hAl := ext_alloc W2 (.cells #[.slice G1 ps.gross.length z1, .slice G2 ps.taxes.length z2, .int .i64 ps.premium, .int .i64 ps.lacks, .slice G3 ps.paid.length z3, .slice G4 ps.short.length z4, .slice G5 ps.extra.length z5, .int .i64 ps.rest] 29)
  have hbw3 := ext_trans hbw2 hAl
  have hX3 := hX2.ext hAl
  have hA3 := hA2.ext hAl
  have hB3 := hB2.ext hAl
  have hP3 := hP.ext hAl
  clear hbw2 hX2 hA2 hB2 hP hAl
  go_upto_region 4 with fail
  change Blk (W2.alloc (.cells #[.slice G1 ps.gross.length z1, .slice G2 ps.taxes.length z2, .int .i64 ps.premium, .int .i64 ps.lacks, .slice G3 ps.paid.length z3, .slice G4 ps.short.length z4, .slice G5 ps.extra.length z5, .int .i64 ps.rest] 29)) _ _ _ at hY
  generalize W2.heap.size = Y at *
  generalize W2.alloc (.cells #[.slice G1 ps.gross.length z1, .slice G2 ps.taxes.length z2, .int .i64 ps.premium, .int .i64 ps.lacks, .slice G3 ps.paid.length z3, .slice G4 ps.short.length z4, .slice G5 ps.extra.length z5, .int .i64 ps.rest] 29) = W3 at *
  have x0 : W3.cell? ⟨w.heap.size, 0, none⟩ = _ := hX3.cell (i := 0) rfl
  have x1 : W3.cell? ⟨w.heap.size, 1, none⟩ = _ := hX3.cell (i := 1) rfl
  have x2 : W3.cell? ⟨w.heap.size, 2, none⟩ = _ := hX3.cell (i := 2) rfl
  go_wp2_with fail
  refine (CR.out _ (by omega) (by omega) hA3 hB3).mono ?_; rintro e W4 ⟨rfl, hb4⟩
  have hbw4 := ext_trans hbw3 hb4
  have hX4 := hX3.ext hb4
  have hA4 := hA3.ext hb4
  have hB4 := hB3.ext hb4
  have hP4 := hP3.ext hb4
  have hY4 := hY.ext hb4
  clear hbw3 hX3 hA3 hB3 hP3 hY hb4 x0 x1 x2
  have y0 : W4.cell? ⟨Y, 0, none⟩ = _ := hY4.cell (i := 0) rfl
  have y1 : W4.cell? ⟨Y, 1, none⟩ = _ := hY4.cell (i := 1) rfl
  have y2 : W4.cell? ⟨Y, 2, none⟩ = _ := hY4.cell (i := 2) rfl
  have y3 : W4.cell? ⟨Y, 3, none⟩ = _ := hY4.cell (i := 3) rfl
  have y4 : W4.cell? ⟨Y, 4, none⟩ = _ := hY4.cell (i := 4) rfl
  have y5 : W4.cell? ⟨Y, 5, none⟩ = _ := hY4.cell (i := 5) rfl
  have y6 : W4.cell? ⟨Y, 6, none⟩ = _ := hY4.cell (i := 6) rfl
  have y7 : W4.cell? ⟨Y, 7, none⟩ = _ := hY4.cell (i := 7) rfl
  cases hok : wk.okB
  · have hr : (ps, er) = (Pay.zero, 1) := by rw [← Hres.out]; simp [settleR, hok]
    obtain ⟨hps, rfl⟩ := Prod.mk.injEq .. ▸ hr
    have CP := Lib.hid (pays_any ps Pay.zero _ pzV W4 hP4 (zero_at W4) (by rw [hps]; exact zero_small) zero_small)
    rw [show payEq ps Pay.zero = true by rw [hps]; exact payEq_self _] at CP
    unfold pzV at CP
    clear hr hps
    go_wp2_with fail
    refine CP.out.mono ?_; rintro e W5 ⟨rfl, hb5⟩
    have hbw5 := ext_trans hbw4 hb5
    clear hbw4 hb5 CP
    go_wp2_with fail
    refine (awake_any _).mono ?_; rintro e wz ⟨rfl, hbz⟩
    go_wp2
    go_ret
    exact ⟨rfl, ext_trans hbw5 hbz⟩
  have hr : (ps, er) = (wk.settle, 0) := by rw [← Hres.out]; simp [settleR, hok]
  obtain ⟨hps, rfl⟩ := Prod.mk.injEq .. ▸ hr
  have hsm := Hsm.out hok
  rw [← hps] at hsm
  have CP := Lib.hid (fun W u v hu hv => pays_any ps ps u v W hu hv hsm hsm)
  rw [payEq_self] at CP
  clear hr
  clear y0 y1 y2 y3 y4 y5 y6 y7
  go_upto_region 6 with fail
  refine Dr.wp_region_plan 12 [] (.q [0, 1, 2, 3, 4] (.e1 5 (.e1 6 (.q [7, 8] (.e1 9 (.q [10, 11] .done)))))) (by kernel_rfl) (by kernel_rfl) ?_
  have hdr : Below W4.heap.size W4 W4.drew := (Below.refl _ _).drew
  have hbw5 := ext_trans hbw4 hdr
  have hX5 := hX4.ext hdr
  have hY5 := hY4.ext hdr
  have hA5 := hA4.ext hdr
  have hB5 := hB4.ext hdr
  have hP5 := hP4.ext hdr
  clear hbw4 hX4 hY4 hA4 hB4 hP4 hdr
  generalize World.drew _ = W5 at *
  have CQ1 := Lib.hid (CQ.out W5 hA5 hB5 hok)
  rw [← hps] at CQ1
  clear CQ hps
  have x0 := Dr.cell0 (hX5.cell (i := 0) rfl)
  have x1 := Dr.cell0 (hX5.cell (i := 1) rfl)
  have x2 := Dr.cell0 (hX5.cell (i := 2) rfl)
  have y0 := Dr.cell0 (hY5.cell (i := 0) rfl)
  have y1 := Dr.cell0 (hY5.cell (i := 1) rfl)
  have y2 := Dr.cell0 (hY5.cell (i := 2) rfl)
  have y3 := Dr.cell0 (hY5.cell (i := 3) rfl)
  have y4 := Dr.cell0 (hY5.cell (i := 4) rfl)
  have y5 := Dr.cell0 (hY5.cell (i := 5) rfl)
  have y6 := Dr.cell0 (hY5.cell (i := 6) rfl)
  have y7 := Dr.cell0 (hY5.cell (i := 7) rfl)
  refine Dr.plan_q (l := [_, _, _, _, _]) rfl (fun K hK => ?_)
  iterate 5 (go_big_quiet_step (fail))
  refine wpQuiet_nil (hK _ ?_); clear hK K
  refine Dr.plan_e rfl (by rfl) (fun K hK => ?_)
  go_wp2_with fail
  refine CQ1.out.mono ?_; rintro e W6 ⟨v5, rfl, hQ, hb6⟩
  have hbw6 := ext_trans hbw5 hb6
  have hP6 := hP5.ext hb6
  go_wp2
  refine hK _ _ (.of hb6) ?_; clear hK K
  clear hbw5 hP5 hY5 hX5 hA5 hB5 CQ1 hb6 x0 x1 x2 y0 y1 y2 y3 y4 y5 y6 y7
  refine Dr.plan_e rfl (by rfl) (fun K hK => ?_)
  go_wp2_with fail
  refine (CP.out _ _ _ hP6 hQ).mono ?_; rintro e W7 ⟨rfl, hb7⟩
  have hbw7 := ext_trans hbw6 hb7
  go_wp2
  refine hK _ _ (.of hb7) ?_; clear hK K
  clear hbw6 hP6 hQ CP hb7
  refine Dr.plan_q (l := [_, _]) rfl (fun K hK => ?_)
  iterate 2 (go_big_quiet_step (fail))
  refine wpQuiet_nil (hK _ ?_); clear hK K
  refine Dr.plan_e rfl (by rfl) (fun K hK => ?_)
  go_wp2_with fail
  refine (awake_any _).mono ?_; rintro e wz ⟨rfl, hbz⟩
  go_wp2
  refine hK _ _ (.of hbz) ?_; clear hK K
  refine Dr.plan_q (l := [_, _]) rfl (fun K hK => ?_)
  iterate 2 (go_big_quiet_step (fail))
  refine wpQuiet_nil (hK _ ?_); clear hK K
  refine Dr.plan_end rfl ?_
  go_wp2
  go_ret
  exact ⟨rfl, ext_trans hbw7 hbz⟩
end Go.Proofs.Ytnjdlhhgnamigaa

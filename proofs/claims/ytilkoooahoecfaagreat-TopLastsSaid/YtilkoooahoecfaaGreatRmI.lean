/- Walks: rigging.Room on one point; hangs. (Printed by mk_rmi.py.) -/
import Derived.Test.YtilkoooahoecfaaGreatRmH
namespace Go.Proofs.YtilkoooahoecfaaGreat.Rg
open Go.RowKit Go.Bs Go.Pl Go.Sort Go.Rg
def ldC (n : Int) : List Value := [.int .i64 (-1), .int .i64 0, .int .u8 2, .int .i64 0, .int .i64 n]
theorem ldC_len (n : Int) : (ldC n).length = 5 := rfl
theorem ldC_one (n : Int) : ∀ u ∈ ldC n, u.oneCell' = true := by
  intro u hu
  simp [ldC] at hu
  rcases hu with rfl | rfl | rfl | rfl | rfl <;> rfl
theorem et56 : ElemT Tryz.prog 56 73 5 40 := ElemT.mk (z := .agg #[.int .i64 0, .int .i64 0, .int .u8 0, .int .i64 0, .int .i64 0]) Tryz.underlying56 (by kernel_rfl) rfl
theorem own_ldb {w : World} {base g c : Nat} {n : Int} (h : OwnL w base 73 5 ldC (.slice (some ⟨g, 0, none⟩) 1 c) [n]) : LdB w g (ldC n) := by
  obtain ⟨A, c', e, -, -, hc⟩ := h.cells ldC_len
  injection e with e1 e2 e3
  subst e1
  intro j v hv
  obtain ⟨b, off, e, h2⟩ := hc 0 n rfl
  injection e with e
  injection e with e1 e2 e3
  subst e1 e2
  have := h2 j v hv
  simpa using this
theorem hown_ge {w : World} {base g c : Nat} {n : Int} (h : OwnL w base 73 5 ldC (.slice (some ⟨g, 0, none⟩) 1 c) [n]) : base ≤ g := (h.lt (k := g) rfl).1
theorem ldb_other {w : World} {L : Nat} {cs : List Value} {p : Addr} (h : LdB w L cs) (hp : L ≠ p.block) (u : Value) : LdB (w.setCell p u) L cs := fun j v hv => by
  have h1 := h j v hv
  rw [World.cell?_of_block (w := w) (Below.heap_setCell w p u L hp)]
  exact h1
theorem gen_world {C : Code} {Q : Exit → Act → World → Prop} {a : Act} (w0 : World) {w : World} (h : Below w0.heap.size w0 w) (k : ∀ w', Below w0.heap.size w0 w' → C.wp Tryz.prog Q a w') : C.wp Tryz.prog Q a w := k w h
theorem there2 (w : World) (a b : Int) : ((w.alloc (.cells #[.int .i64 a, .int .i64 b] 76)).alloc (.cells #[.int .i64 0, .int .i64 0, .int .i64 0, .int .i64 0, .int .i64 0, .int .i64 0, .int .i64 0, .int .i64 0, .int .i64 0, .int .i64 0, .int .i64 0, .int .i64 0, .int .i64 0, .int .i64 0, .int .i64 0, .int .i64 0, .int .i64 0, .int .i64 0, .int .i64 0, .int .i64 0, .int .i64 0] 78)).there (w.heap.size + 1) 0 21 := by
  have h := RwB.there (RwB.zero (w.alloc (.cells #[.int .i64 a, .int .i64 b] 76)))
  rwa [show (w.alloc (.cells #[.int .i64 a, .int .i64 b] 76)).heap.size = w.heap.size + 1 by simp] at h
theorem made2 (w : World) (a b : Int) (g : Nat → Int) : ∃ V, ((w.alloc (.cells #[.int .i64 a, .int .i64 b] 76)).alloc (.cells #[.int .i64 0, .int .i64 0, .int .i64 0, .int .i64 0, .int .i64 0, .int .i64 0, .int .i64 0, .int .i64 0, .int .i64 0, .int .i64 0, .int .i64 0, .int .i64 0, .int .i64 0, .int .i64 0, .int .i64 0, .int .i64 0, .int .i64 0, .int .i64 0, .int .i64 0, .int .i64 0, .int .i64 0] 78)).setCells (w.heap.size + 1) 0 (rwC g) = V ∧ Below w.heap.size w V :=
  ⟨_, rfl, below_setCells (by omega) _ _ (ext_trans (ext_alloc _ _) (ext_alloc _ _))⟩
theorem clone_none (w : World) : Calls Tryz.prog 24 #[.slice none 0 0] w fun e w' => e = .returned (.slice none 0 0) ∧ w = w' := by
  have he : ∀ w, (binOp .eql 56 (.slice none 0 0) (.slice none 0 0)).run Tryz.prog w = .ok (.bool true) w := fun _ => by kernel_rfl
  go_enter Tryz.func24, Tryz.ntmps24
  go_wp2
  go_ret
  exact ⟨rfl, rfl⟩
set_option maxHeartbeats 4000000 in
set_option maxRecDepth 100000 in
theorem safe_any (R Pl K p : Nat) (n : Int) (w : World) (hn : 0 ≤ n ∧ n ≤ 1000000) (hR : Blk w R 58 [.slice (some ⟨p, 0, none⟩) 1 1, .slice none 0 0, .int .i64 1000, .int .i64 1000, .int .i64 2000, .slice none 0 0]) (hPl : Blk w Pl 60 [.int .i64 (-1), .int .i64 0]) (hK : Blk w K 5 [.int .u8 2]) (h9 : Blk w p 3 [.int .i64 9]) :
    Calls Tryz.prog 23 #[.int .i64 n, .pointer (some ⟨R, 0, none⟩), .pointer (some ⟨Pl, 0, none⟩), .pointer (some ⟨K, 0, none⟩)] w fun e w' => e = .returned (.bool (decide (n ≤ 4))) ∧ Below w.heap.size w w' := by
  have r0 : w.cell? ⟨R, 0, none⟩ = _ := hR.cell (i := 0) rfl
  have r1 : w.cell? ⟨R, 1, none⟩ = _ := hR.cell (i := 1) rfl
  have r2 : w.cell? ⟨R, 2, none⟩ = _ := hR.cell (i := 2) rfl
  have r3 : w.cell? ⟨R, 3, none⟩ = _ := hR.cell (i := 3) rfl
  have r4 : w.cell? ⟨R, 4, none⟩ = _ := hR.cell (i := 4) rfl
  have r5 : w.cell? ⟨R, 5, none⟩ = _ := hR.cell (i := 5) rfl
  go_enter Tryz.func23, Tryz.ntmps23
  go_upto_region 2 with fail
  obtain ⟨W1, Y, hW1, hYe, hYB, hb1⟩ := mkd w [.slice (some ⟨p, 0, none⟩) 1 1, .slice none 0 0, .int .i64 1000, .int .i64 1000, .int .i64 2000, .slice none 0 0] 58
  rw [hW1, hYe]
  clear hW1 r0 r1 r2 r3 r4 r5
  have hR1 := hR.ext hb1
  have hPl1 := hPl.ext hb1
  have hK1 := hK.ext hb1
  have h91 := h9.ext hb1
  have hRY := hR.lt
  have hpY := h9.lt
  clear hR hPl hK
  go_cut [5] from 14 (fun b wc => b = .bool false ∧ ∃ L cL, Blk wc Y 58 [.slice (some ⟨p, 0, none⟩) 1 1, .slice none 0 0, .int .i64 1000, .int .i64 1000, .int .i64 2000, .slice (some ⟨L, 0, none⟩) 1 cL] ∧ LdB wc L (ldC n) ∧ Below w.heap.size w wc)
  case first =>
    refine Dr.wp_region_plan 8 [] (.q [0, 1, 3, 4, 5, 6] (.e2 2 (.e1 7 .done) 7 (.e1 2 .done))) (by kernel_rfl) (by kernel_rfl) ?_
    have hYB := hYB.drew
    have hbw := hb1.drew
    have q0 := Dr.cell0 (hR1.drew.cell (i := 5) rfl)
    have q1 := Dr.cell0 (hPl1.drew.cell (i := 0) rfl)
    have q2 := Dr.cell0 (hPl1.drew.cell (i := 1) rfl)
    have q3 := Dr.cell0 (hK1.drew.cell (i := 0) rfl)
    clear hR1 hPl1 hK1 h91 hb1 h9
    generalize World.drew W1 = V at *
    have hYV := hYB.lt
    have hVw := hbw.size
    have hYw : w.heap.size ≤ Y := by omega
    with_reducible refine Dr.plan_q (l := [_, _, _, _, _, _]) (by with_unfolding_all exact rfl) (fun K hK => ?_)
    iterate 6 (go_big_quiet_step (fail))
    refine wpQuiet_nil (hK _ ?_); clear hK K
    clear q0 q1 q2 q3
    refine Dr.plan_e2 ?_ ?_
    · refine Dr.plan_e rfl (by rfl) (fun K hK => ?_)
      go_wp2_with fail
      refine (clone_none _).mono ?_; rintro e w1 ⟨rfl, rfl⟩
      refine hK _ _ (Dr.Bel.refl _ _) ?_; clear hK K
      refine Dr.plan_e rfl (by rfl) (fun K hK => ?_)
      go_wp2_with fail
      refine hK _ _ (Dr.Bel.of (ext_alloc _ _)) ?_; clear hK K
      obtain ⟨V1, G, hV1, hGe, hG, hb2⟩ := mkd V (ldC n) 73
      have hV1' : V.alloc (.cells #[.int .i64 (-1), .int .i64 0, .int .u8 2, .int .i64 0, .int .i64 n] 73) = V1 := hV1
      rw [hV1', hGe]
      have hY1 := hYB.ext hb2
      have hVG := hb2.size
      clear hV1 hV1' hYB
      refine Dr.plan_done (tl := [_, _, _]) rfl ?_
      go_wp2_with (at_builtin; refine app1 ldC 56 73 5 40 et56 (by decide) (by decide) ldC_len ldC_one rfl _ _ rfl V.heap.size _ ([] : List Int) rfl OwnL.nil G rfl n (fun j u hj => hG.cell hj) (by simp) hVG ?_; intro g' cap V2 hown hb3 _ _; have hY2 := hY1.under hb3 hYV; have hb4 := hb2.trans hb3; have y5 : V2.cell? ⟨Y, 5, none⟩ = _ := hY2.cell (i := 5) rfl; have fy := hY2.free 5)
      have hld : LdB V2 g' (ldC n) := own_ldb hown
      have hgV := hown_ge hown
      go_meet
      case rel => exact ⟨rfl, g', cap, hY2.set 5 _, ldb_other hld (show g' ≠ Y by omega) _, hbw.trans (hb4.mono hVw) |>.setCell (p := ⟨Y, 5, none⟩) hYw _⟩
    · refine Dr.plan_e rfl (by rfl) (fun K hK => ?_)
      go_wp2_with fail
      refine hK _ _ (Dr.Bel.of (ext_alloc _ _)) ?_; clear hK K
      obtain ⟨V1, G, hV1, hGe, hG, hb2⟩ := mkd V (ldC n) 73
      have hV1' : V.alloc (.cells #[.int .i64 (-1), .int .i64 0, .int .u8 2, .int .i64 0, .int .i64 n] 73) = V1 := hV1
      rw [hV1', hGe]
      have hY1 := hYB.ext hb2
      have hVG := hb2.size
      clear hV1 hV1' hYB
      refine Dr.plan_e rfl (by rfl) (fun K hK => ?_)
      go_wp2_with fail
      refine (clone_none _).mono ?_; rintro e w1 ⟨rfl, rfl⟩
      refine hK _ _ (Dr.Bel.refl _ _) ?_; clear hK K
      refine Dr.plan_done (tl := [_, _, _]) rfl ?_
      go_wp2_with (at_builtin; refine app1 ldC 56 73 5 40 et56 (by decide) (by decide) ldC_len ldC_one rfl _ _ rfl V.heap.size _ ([] : List Int) rfl OwnL.nil G rfl n (fun j u hj => hG.cell hj) (by simp) hVG ?_; intro g' cap V2 hown hb3 _ _; have hY2 := hY1.under hb3 hYV; have hb4 := hb2.trans hb3; have y5 : V2.cell? ⟨Y, 5, none⟩ = _ := hY2.cell (i := 5) rfl; have fy := hY2.free 5)
      have hld : LdB V2 g' (ldC n) := own_ldb hown
      have hgV := hown_ge hown
      go_meet
      case rel => exact ⟨rfl, g', cap, hY2.set 5 _, ldb_other hld (show g' ≠ Y by omega) _, hbw.trans (hb4.mono hVw) |>.setCell (p := ⟨Y, 5, none⟩) hYw _⟩
  case rest =>
    obtain ⟨rfl, L, cL, hYc, hLc, hbc⟩ := hcut
    have h9c := h9.ext hbc
    clear hR1 hPl1 hK1 h91 hb1 hYB h9
    have y0 : wc.cell? ⟨Y, 0, none⟩ = _ := hYc.cell (i := 0) rfl
    have y1 : wc.cell? ⟨Y, 1, none⟩ = _ := hYc.cell (i := 1) rfl
    have y2 : wc.cell? ⟨Y, 2, none⟩ = _ := hYc.cell (i := 2) rfl
    have y3 : wc.cell? ⟨Y, 3, none⟩ = _ := hYc.cell (i := 3) rfl
    have y4 : wc.cell? ⟨Y, 4, none⟩ = _ := hYc.cell (i := 4) rfl
    have y5 : wc.cell? ⟨Y, 5, none⟩ = _ := hYc.cell (i := 5) rfl
    go_wp2_with fail
    refine (frame_any p L cL n wc hLc).mono ?_; rintro e W2 ⟨F, T, H, U, rfl, hF, hT, hb2⟩
    clear y0 y1 y2 y3 y4 y5
    have hL2 := hLc.ext hb2
    have h92 := h9c.ext hb2
    have hbw2 := hbc.trans (hb2.mono hbc.size)
    clear hYc hLc h9c hbc hb2
    have CO := Lib.hid (over_any p L cL T F _ _ _ n W2 hn (show upd (fun _ => 0) 0 216000 0 = 216000 by simp [upd]) (show upd (fun _ => 0) 0 216000 20 = 0 by simp [upd]) hL2 hF hT h92)
    go_wp2_with fail
    refine CO.out.mono ?_; rintro e W3 ⟨a, b, g, rfl, hb3⟩
    have hF3 := hF.ext hb3
    have hbw3 := hbw2.trans (hb3.mono hbw2.size)
    generalize hq : decide (9 < 2 * n) = q at *
    have Hq := Lib.hid hq
    clear hq CO hF hT hL2 h92 hb3 hbw2
    go_upto_region 5 with (first | (refine st_row rfl _ _ rfl (W3.heap.size + 1) 0 g rfl rfl ?th ?_; case th => exact there2 W3 a b))
    obtain ⟨V4, hV4, hb4⟩ := made2 W3 a b g
    rw [hV4]
    have hF4 := hF3.ext hb4
    have hbw4 := hbw3.trans (hb4.mono hbw3.size)
    clear hV4 hF3 hbw3 hb4
    generalize W3.heap.size = S3 at *
    have CS := Lib.hid (slack_any F _ V4 hF4 rfl)
    clear hF4
    go_wp2_with fail
    refine CS.out.mono ?_; rintro e W5 ⟨rfl, hb5⟩
    have hbw5 := hbw4.trans (hb5.mono hbw4.size)
    clear CS hbw4 hb5
    go_upto_region 6 with (first | (refine st_row rfl _ _ rfl (W5.heap.size + 1) 0 (fun _ => 0) rfl rfl ?th ?_; case th => exact there2 W5 0 0))
    obtain ⟨V6, hV6, hb6⟩ := made2 W5 0 0 (fun _ => 0)
    rw [hV6]
    have hbw6 := hbw5.trans (hb6.mono hbw5.size)
    clear hV6 hbw5 hb6
    cases q
    · have hr : decide (n ≤ 4) = true := decide_eq_true (by have := of_decide_eq_false Hq.out; omega)
      have Hr := Lib.hid hr
      clear hr
      go_wp2
      go_ret
      exact ⟨ret_congr (bool_congr Hr.out.symm), hbw6⟩
    · have hr : decide (n ≤ 4) = false := decide_eq_false (by have := of_decide_eq_true Hq.out; omega)
      have Hr := Lib.hid hr
      clear hr
      go_wp2
      go_ret
      exact ⟨ret_congr (bool_congr Hr.out.symm), hbw6⟩
set_option maxHeartbeats 4000000 in
set_option maxRecDepth 100000 in
theorem room_any (p : Nat) (w : World) (h9 : Blk w p 3 [.int .i64 9]) :
    Calls Tryz.prog 13 #[.agg #[.slice (some ⟨p, 0, none⟩) 1 1, .slice none 0 0, .int .i64 1000, .int .i64 1000, .int .i64 2000, .slice none 0 0], .agg #[.int .i64 (-1), .int .i64 0], .int .u8 2] w fun e w' => e = .returned (.tuple #[.int .i64 4, .int .i64 0]) ∧ Below w.heap.size w w' := by
  obtain ⟨W1, A, hW1, hAe, hA, hb1⟩ := mkd w [.slice (some ⟨p, 0, none⟩) 1 1, .slice none 0 0, .int .i64 1000, .int .i64 1000, .int .i64 2000, .slice none 0 0] 58
  obtain ⟨W2, B, hW2, hBe, hB, hb2⟩ := mkd W1 [.int .i64 (-1), .int .i64 0] 60
  obtain ⟨W3, C, hW3, hCe, hC, hb3⟩ := mkd W2 [.int .u8 2] 5
  have hA3 := (hA.ext hb2).ext hb3
  have hB3 := hB.ext hb3
  have h93 := ((h9.ext hb1).ext hb2).ext hb3
  have hbw := ext_trans hb1 (ext_trans hb2 hb3)
  have hW1' : w.alloc (.cells #[.slice (some ⟨p, 0, none⟩) 1 1, .slice none 0 0, .int .i64 1000, .int .i64 1000, .int .i64 2000, .slice none 0 0] 58) = W1 := hW1
  have hW2' : W1.alloc (.cells #[.int .i64 (-1), .int .i64 0] 60) = W2 := hW2
  have hW3' : W2.alloc (.cells #[.int .u8 2] 5) = W3 := hW3
  have hBe2 : w.heap.size + 1 = B := by rw [← hBe, ← hW1']; simp
  have hCe2 : B + 1 = C := by rw [← hBe2, ← hCe, ← hW2', ← hW1']; simp
  clear hW1 hW2 hW3 hA hB hb1 hb2 hb3 hBe hCe h9
  have Hm := Lib.hid (⟨hW1', hW2', hW3', hBe2, hCe2, hAe⟩ : w.alloc (.cells #[.slice (some ⟨p, 0, none⟩) 1 1, .slice none 0 0, .int .i64 1000, .int .i64 1000, .int .i64 2000, .slice none 0 0] 58) = W1 ∧ W1.alloc (.cells #[.int .i64 (-1), .int .i64 0] 60) = W2 ∧ W2.alloc (.cells #[.int .u8 2] 5) = W3 ∧ w.heap.size + 1 = B ∧ B + 1 = C ∧ w.heap.size = A)
  clear hW1' hW2' hW3' hBe2 hCe2 hAe
  go_enter Tryz.func13, Tryz.ntmps13
  go_upto_block 0 with fail
  rw [Hm.out.1, Hm.out.2.1, Hm.out.2.2.1, Hm.out.2.2.2.1, Hm.out.2.2.2.2.1, Hm.out.2.2.2.2.2]
  clear Hm
  have a0 : W3.cell? ⟨A, 0, none⟩ = _ := hA3.cell (i := 0) rfl
  have a1 : W3.cell? ⟨A, 1, none⟩ = _ := hA3.cell (i := 1) rfl
  have a2 : W3.cell? ⟨A, 2, none⟩ = _ := hA3.cell (i := 2) rfl
  have a3 : W3.cell? ⟨A, 3, none⟩ = _ := hA3.cell (i := 3) rfl
  have a4 : W3.cell? ⟨A, 4, none⟩ = _ := hA3.cell (i := 4) rfl
  have a5 : W3.cell? ⟨A, 5, none⟩ = _ := hA3.cell (i := 5) rfl
  have CV := Lib.hid (rig_valid p W3 (h93.cell (i := 0) rfl))
  go_wp2_with fail
  refine CV.out.mono ?_; rintro e W4 ⟨rfl, hb4⟩
  clear a0 a1 a2 a3 a4 a5 CV
  have hA4 := hA3.ext hb4
  have hB4 := hB3.ext hb4
  have hC4 := hC.ext hb4
  have h94 := h93.ext hb4
  have hbw4 := ext_trans hbw hb4
  clear hA3 hB3 hC h93 hb4 hbw
  have a0 : W4.cell? ⟨A, 0, none⟩ = _ := hA4.cell (i := 0) rfl
  have a1 : W4.cell? ⟨A, 1, none⟩ = _ := hA4.cell (i := 1) rfl
  have a2 : W4.cell? ⟨A, 2, none⟩ = _ := hA4.cell (i := 2) rfl
  have a3 : W4.cell? ⟨A, 3, none⟩ = _ := hA4.cell (i := 3) rfl
  have a4 : W4.cell? ⟨A, 4, none⟩ = _ := hA4.cell (i := 4) rfl
  have a5 : W4.cell? ⟨A, 5, none⟩ = _ := hA4.cell (i := 5) rfl
  have b0 : W4.cell? ⟨B, 0, none⟩ = _ := hB4.cell (i := 0) rfl
  have b1 : W4.cell? ⟨B, 1, none⟩ = _ := hB4.cell (i := 1) rfl
  go_wp2_with fail
  refine (has_any _ _ _).mono ?_; rintro e W5 ⟨rfl, hb5⟩
  clear a0 a1 a2 a3 a4 a5 b0 b1
  have hA5 := hA4.ext hb5
  have hB5 := hB4.ext hb5
  have hC5 := hC4.ext hb5
  have h95 := h94.ext hb5
  have hbw5 := ext_trans hbw4 hb5
  clear hA4 hB4 hC4 h94 hb5 hbw4
  have a5 : W5.cell? ⟨A, 5, none⟩ = _ := hA5.cell (i := 5) rfl
  have c0 : W5.cell? ⟨C, 0, none⟩ = _ := hC5.cell (i := 0) rfl
  have eg := enters_of Tryz.func23 (by kernel_rfl) rfl
  unfold Enters at eg
  have CS := Lib.hid (fun (n : Int) (hn : 0 ≤ n ∧ n ≤ 1000000) (W : World) (hb : Below W5.heap.size W5 W) => safe_any A B C p n W hn (hA5.ext hb) (hB5.ext hb) (hC5.ext hb) (h95.ext hb))
  go_upto_region 8 with fail
  have C0 := Lib.hid (CS.out 0 (by omega) W5 (Below.refl _ _))
  clear a5 c0 hA5 hB5 hC5 h95
  go_wp2_with fail
  refine C0.out.mono ?_; rintro e W6 ⟨rfl, hb6⟩
  clear C0
  go_upto_block 1 with fail
  go_wp2
  go_loopw [9, 10, 11] (fun l h _ wr => ∃ lo hi : Int, l = .int .i64 lo ∧ h = .int .i64 hi ∧ 0 ≤ lo ∧ lo ≤ 4 ∧ 4 ≤ hi ∧ hi ≤ 1000000 ∧ Below W5.heap.size W5 wr) (fun l h _ _ => (intOf h - intOf l).toNat)
  case atStart => exact ⟨0, 1000000, rfl, rfl, by omega, by omega, by omega, by omega, hb6⟩
  case round =>
    obtain ⟨lo, hi, rfl, rfl, h0, h4, h5, h6, hbr⟩ := hrel
    by_cases hlt : lo < hi
    · have w1 : wrap64 (lo + hi) = lo + hi := by unfold wrap64; omega
      have w2 : wrap64 (lo + hi + 1) = lo + hi + 1 := by unfold wrap64; omega
      obtain ⟨m, hm⟩ : ∃ m, m = (lo + hi + 1) / 2 := ⟨_, rfl⟩
      have w3 : (lo + hi + 1).tdiv 2 = m := by rw [Int.tdiv_eq_ediv_of_nonneg (by omega), hm]
      have hm1 : lo < m ∧ m ≤ hi := by omega
      have w4 : wrap64 m = m := by unfold wrap64; omega
      have w5 : wrap64 (m - 1) = m - 1 := by unfold wrap64; omega
      have CM := Lib.hid (CS.out m (by omega) wr hbr)
      clear hm
      by_cases hq : m ≤ 4
      · have hd : decide (m ≤ 4) = true := decide_eq_true hq
        rw [hd] at CM
        clear hd
        go_wp2_with fail
        refine CM.out.mono ?_; rintro e W7 ⟨rfl, hb7⟩
        clear CM
        go_wp2
        go_roundw
        case rel => exact ⟨m, hi, rfl, rfl, by omega, by omega, by omega, by omega, ext_trans hbr hb7⟩
        case measure => simp [intOf]; omega
      · have hd : decide (m ≤ 4) = false := decide_eq_false hq
        rw [hd] at CM
        clear hd
        go_wp2_with fail
        refine CM.out.mono ?_; rintro e W7 ⟨rfl, hb7⟩
        clear CM
        go_wp2
        go_roundw
        case rel => exact ⟨lo, m - 1, rfl, rfl, by omega, by omega, by omega, by omega, ext_trans hbr hb7⟩
        case measure => simp [intOf]; omega
    · obtain rfl : lo = 4 := by omega
      have hbf := ext_trans hbw5 hbr
      clear CS
      go_wp2
      refine bodyPost_ret (v := .tuple #[.int .i64 4, .int .i64 0]) (by simp [results, Tryz.results13, go_sem]) rfl ?_
      exact ⟨rfl, hbf⟩
theorem hangs_any (w : World) : Calls Tryz.prog 7 #[] w fun e w' => e = .returned (.bool true) ∧ Below w.heap.size w w' := by
  have h9 := Blk.new w 3 [.int .i64 9]
  have hx := ext_alloc w (.cells #[.int .i64 9] 3)
  have C := Lib.hid (room_any w.heap.size (w.alloc (.cells #[.int .i64 9] 3)) h9)
  go_enter Tryz.func7, Tryz.ntmps7
  go_wp2_with fail
  refine C.out.mono ?_; rintro e W1 ⟨rfl, hb⟩
  go_wp2
  go_ret
  exact ⟨rfl, ext_trans hx hb⟩
end Go.Proofs.YtilkoooahoecfaaGreat.Rg

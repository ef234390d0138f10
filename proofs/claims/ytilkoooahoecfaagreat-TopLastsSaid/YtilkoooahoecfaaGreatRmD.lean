/- Walks: rigging: end, most for one load. -/
import Derived.Test.YtilkoooahoecfaaGreatRmC
namespace Go.Proofs.YtilkoooahoecfaaGreat.Rg
open Go.RowKit Go.Bs Go.Pl Go.Sort Go.Rg
theorem ldq_row {ops : Array Oper} {C : World → Prop} {K : Act → Prop} {rest : List Oper} {op : Oper} {a : Act} (hw : Region.wanted op (yielded ops a.tmps) = true) (x : Operand) (ho : op.op = .load 78 x)
    (b o : Nat) (hx : a.eval x = .pointer (some ⟨b, o, none⟩)) (f : Nat → Int) (hc : ∀ w, C w → w.rangeAt b o (rwC f))
    (h : wpQuiet Tryz.prog ops C K rest (a.put op.dst (.agg (rwC f).toArray))) : wpQuiet Tryz.prog ops C K (op :: rest) a := by
  unfold wpQuiet
  rw [if_pos hw]
  refine ⟨_, fun w hw => ?_, h⟩
  unfold Oper.quietAt execOp
  simp only [ho, hx, Instr.loadAt, Instr.sureAddr, Sem.run_bind, Sem.run_pure, Result.andThen_ok, run_loadVar_mid w b o 78 (rwC f) _ (hc w hw) u78 rfl (hi78 f)]
  exact ⟨rfl, rfl⟩
theorem row_cls {w : World} {b : Nat} {f : Nat → Int} (h : RwB w b f) {M : List Nat} (hb : b ∉ M) : ∀ W, Dr.Cls M w W → W.rangeAt b 0 (rwC f) := by
  rintro W ⟨p, rfl⟩ j v hv
  exact Dr.cls_cell (h.range j v hv) hb p
set_option maxHeartbeats 2000000 in
set_option maxRecDepth 100000 in
theorem end_any (p L cL t F : Nat) (hv uv : Value) (f : Nat → Int) (n : Int) (w : World) (hn : 0 ≤ n ∧ n ≤ 1000000) (h0 : f 0 = 216000) (hL : LdB w L [.int .i64 (-1), .int .i64 0, .int .u8 2, .int .i64 0, .int .i64 n]) (hF : Blk w F 99 [.slice (some ⟨p, 0, none⟩) 1 1, .slice none 0 0, .int .i64 1000, .int .i64 1000, .int .i64 2000, .slice (some ⟨L, 0, none⟩) 1 cL, .slice (some ⟨t, 0, none⟩) 1 1, hv, uv]) :
    Calls Tryz.prog 66 #[.pointer (some ⟨F, 0, none⟩), .agg (rwC f).toArray, .bool true] w fun e w' => ∃ O, e = .returned (.slice (some ⟨O, 0, none⟩) 1 1) ∧ Blk w' O 3 [.int .i64 (2 * n)] ∧ Below w.heap.size w w' := by
  have mk : ∀ w, (Instr.makeSlice 23 (.int .i64 1) (.int .i64 1)).run Tryz.prog w = .ok (.slice (some ⟨w.heap.size, 0, none⟩) 1 1) (w.alloc (.cells #[.int .i64 0] 3)) := fun _ => by kernel_rfl
  have hX : RwB (w.alloc (.cells (rwC f).toArray 78)) w.heap.size f := Blk.new w 78 _
  have hx := ext_alloc w (.cells (rwC f).toArray 78)
  have hL1 := hL.ext hx
  have hF1 := hF.ext hx
  have hXl := Blk.lt hX
  clear hL hF
  go_enter Tryz.func66, Tryz.ntmps66
  go_upto_region 1 with fail
  generalize w.alloc (.cells (rwC f).toArray 78) = W1 at *
  have c5 : W1.cell? ⟨F, 5, none⟩ = _ := hF1.cell (i := 5) rfl
  have hO := Blk.new W1 3 [.int .i64 0]
  have hx1 := ext_alloc W1 (.cells #[.int .i64 0] 3)
  have hXO : w.heap.size ≠ W1.heap.size := by omega
  go_upto_region 2 with fail
  clear c5
  change Blk (W1.alloc (.cells #[.int .i64 0] 3)) _ _ _ at hO
  have hX2 : RwB (W1.alloc (.cells #[.int .i64 0] 3)) _ f := Blk.ext hX hx1
  have hL2 := hL1.ext hx1
  have hF2 := hF1.ext hx1
  have hxw := ext_trans hx hx1
  have hle := hx.size
  generalize W1.alloc (.cells #[.int .i64 0] 3) = W2 at *
  clear hx1 hX hL1 hF1 mk hXl hx
  generalize W1.heap.size = O at *
  generalize hXe : w.heap.size = X at *
  go_wp2
  go_loopw [8, 9, 19] (fun _ _ t wr => (t = .int .i64 0 ∧ W2 = wr) ∨ (t = .int .i64 1 ∧ Blk wr O 3 [.int .i64 (2 * n)] ∧ Below X w wr)) (fun _ _ t _ => 1 - (intOf t).toNat)
  case atStart => exact .inl ⟨rfl, rfl⟩
  case round =>
    rcases hrel with ⟨rfl, rfl⟩ | ⟨rfl, hO3, hb3⟩
    · have CP := Lib.hid (pull_any p L cL n W2 hn hL2)
      have c0 : W2.cell? ⟨F, 0, none⟩ = _ := hF2.cell (i := 0) rfl
      have c1 : W2.cell? ⟨F, 1, none⟩ = _ := hF2.cell (i := 1) rfl
      have c2 : W2.cell? ⟨F, 2, none⟩ = _ := hF2.cell (i := 2) rfl
      have c3 : W2.cell? ⟨F, 3, none⟩ = _ := hF2.cell (i := 3) rfl
      have c4 : W2.cell? ⟨F, 4, none⟩ = _ := hF2.cell (i := 4) rfl
      have c5 : W2.cell? ⟨F, 5, none⟩ = _ := hF2.cell (i := 5) rfl
      go_wp2_with fail
      refine CP.out.mono ?_; rintro e W3 ⟨rfl, hb3⟩
      clear c0 c1 c2 c3 c4 c5 CP
      have hR := Blk.new W3 138 [.int .i64 0, .int .i64 (2 * n)]
      have hx3 := ext_alloc W3 (.cells #[.int .i64 0, .int .i64 (2 * n)] 138)
      go_upto_region 6 with fail
      change Blk (W3.alloc (.cells #[.int .i64 0, .int .i64 (2 * n)] 138)) _ _ _ at hR
      have hb4 := ext_trans hb3 hx3
      have hX4 : RwB (W3.alloc (.cells #[.int .i64 0, .int .i64 (2 * n)] 138)) _ f := Blk.ext hX2 hb4
      have hO4 := hO.ext hb4
      have hxw4 : Below X w _ := hxw.trans (hb4.mono (by have := hxw.size; have := Blk.lt hX2; omega))
      generalize W3.alloc (.cells #[.int .i64 0, .int .i64 (2 * n)] 138) = W4 at *
      clear hb3 hx3 hb4 hxw hX2 hO hL2 hF2
      refine Dr.wp_region_plan 20 [] (.q [0, 1, 2, 3, 4, 5, 6, 7, 8, 9, 10, 11, 12, 13, 14, 15, 16, 17] (.e1 18 (.q [19] .done))) (by kernel_rfl) (by kernel_rfl) ?_
      have hR5 := hR.drew
      have hX5 : RwB W4.drew _ f := Blk.drew hX4
      have hO5 := hO4.drew
      have hxw5 := hxw4.drew
      clear hR hX4 hO4 hxw4
      generalize World.drew W4 = V at *
      have r0 := hX5.cell (show 0 < 21 by omega)
      rw [h0] at r0
      have q0 := Dr.cell0 r0
      have q1 := Dr.cell0 (hR5.cell (i := 0) rfl)
      have q2 := Dr.cell0 (hR5.cell (i := 1) rfl)
      clear r0
      with_reducible refine Dr.plan_q (l := [_, _, _, _, _, _, _, _, _, _, _, _, _, _, _, _, _, _]) (by with_unfolding_all exact rfl) (fun K hK => ?_)
      iterate 18 (go_big_quiet_step (fail))
      refine wpQuiet_nil (hK _ ?_); clear hK K
      clear q0 q1 q2
      refine Dr.plan_e rfl (by rfl) (fun K hK => ?_)
      go_wp2_with fail
      refine (choose_any _ _ _ _).mono ?_; rintro e w1 ⟨rfl, rfl⟩
      refine hK _ _ (Dr.Bel.of (ext_refl _)) ?_; clear hK K
      with_reducible refine Dr.plan_q (l := [_]) (by with_unfolding_all exact rfl) (fun K hK => ?_)
      iterate 1 (go_big_quiet_step (fail))
      refine wpQuiet_nil (hK _ ?_); clear hK K
      have o0 : V.cell? ⟨O, 0, none⟩ = _ := hO5.cell (i := 0) rfl
      have f0 := hO5.free 0
      refine Dr.plan_done (tl := [_]) rfl ?_
      go_wp2
      go_roundw
      case rel => exact .inr ⟨rfl, hO5.set 0 _, hxw5.setCell (by simp; omega) _⟩
      case measure => simp [intOf]
    · go_wp2
      go_ret
      exact ⟨O, rfl, hO3, hXe ▸ hb3⟩
set_option maxHeartbeats 2000000 in
set_option maxRecDepth 100000 in
theorem most_any (p L cL t F : Nat) (hv uv : Value) (f : Nat → Int) (n : Int) (w : World) (hn : 0 ≤ n ∧ n ≤ 1000000) (h0 : f 0 = 216000) (h20 : f 20 = 0) (hL : LdB w L [.int .i64 (-1), .int .i64 0, .int .u8 2, .int .i64 0, .int .i64 n]) (hF : Blk w F 99 [.slice (some ⟨p, 0, none⟩) 1 1, .slice none 0 0, .int .i64 1000, .int .i64 1000, .int .i64 2000, .slice (some ⟨L, 0, none⟩) 1 cL, .slice (some ⟨t, 0, none⟩) 1 1, hv, uv]) :
    Calls Tryz.prog 45 #[.pointer (some ⟨F, 0, none⟩), .agg (rwC f).toArray] w fun e w' => e = .returned (.int .i64 (216000 * (2 * n))) ∧ Below w.heap.size w w' := by
  have hX : RwB (w.alloc (.cells (rwC f).toArray 78)) w.heap.size f := Blk.new w 78 _
  have hx := ext_alloc w (.cells (rwC f).toArray 78)
  have hL1 := hL.ext hx
  have hF1 := hF.ext hx
  clear hL hF
  go_enter Tryz.func45, Tryz.ntmps45
  go_upto_region 1 with fail
  generalize w.alloc (.cells (rwC f).toArray 78) = W1 at *
  generalize hXe : w.heap.size = X at *
  refine Dr.wp_region_plan 6 [] (.q [0, 1, 2] (.e1 3 (.e1 4 (.q [5] .done)))) (by kernel_rfl) (by kernel_rfl) ?_
  have hX2 : RwB W1.drew _ f := Blk.drew hX
  have hL2 := hL1.drew
  have hF2 := hF1.drew
  have hx2 := hx.drew
  clear hX hL1 hF1 hx
  generalize World.drew W1 = V at *
  with_reducible refine Dr.plan_q (l := [_, _, _]) (by with_unfolding_all exact rfl) (fun K hK => ?_)
  refine ldq_row (by rfl) _ rfl X 0 rfl f (row_cls hX2 (by simp)) ?_
  go_frame
  iterate 1 (go_big_quiet_step (fail))
  refine ldq_row (by rfl) _ rfl X 0 rfl f (row_cls hX2 (by simp)) ?_
  go_frame
  refine wpQuiet_nil (hK _ ?_); clear hK K
  refine Dr.plan_e rfl (by rfl) (fun K hK => ?_)
  go_wp2_with fail
  refine (end_any p L cL t F hv uv f n V hn h0 hL2 hF2).mono ?_; rintro e W2 ⟨O, rfl, hO, hb2⟩
  refine hK _ _ (Dr.Bel.of hb2) ?_; clear hK K
  have CB := Lib.hid (bears_any f O 1 (2 * n) W2 (by omega) h0 h20 (hO.cell rfl))
  refine Dr.plan_e rfl (by rfl) (fun K hK => ?_)
  go_wp2_with fail
  refine CB.out.mono ?_; rintro e W3 ⟨rfl, hb3⟩
  refine hK _ _ (Dr.Bel.of hb3) ?_; clear hK K
  with_reducible refine Dr.plan_q (l := [_]) (by with_unfolding_all exact rfl) (fun K hK => ?_)
  iterate 1 (go_big_quiet_step (fail))
  refine wpQuiet_nil (hK _ ?_); clear hK K
  refine Dr.plan_end rfl ?_
  go_wp2
  go_ret
  refine ⟨rfl, ?_⟩
  rw [hXe]
  exact hx2.trans ((ext_trans hb2 hb3).mono (by have := hx2.size; omega))
end Go.Proofs.YtilkoooahoecfaaGreat.Rg

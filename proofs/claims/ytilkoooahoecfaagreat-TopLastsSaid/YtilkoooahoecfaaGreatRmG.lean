/- Walks: rigging: put at a point. -/
import Derived.Test.YtilkoooahoecfaaGreatRmF
namespace Go.Proofs.YtilkoooahoecfaaGreat.Rg
open Go.RowKit Go.Bs Go.Pl Go.Sort Go.Rg
theorem run_two (z g : Nat → Int) (w : World) : (Instr.buildSlice 95 2 #[(0, .agg (rwC z).toArray), (1, .agg (rwC g).toArray)]).run Tryz.prog w = .ok (.slice (some ⟨w.heap.size, 0, none⟩) 2 2) (w.alloc (.cells (rwC z ++ rwC g).toArray 78)) := by kernel_rfl
theorem wp_two {o : Oper} {a : Act} {w : World} {K : Act → World → Prop} {Q : Exit → Act → World → Prop} (x y : Operand) (ho : o.op = .buildSlice 95 2 #[(0, x), (1, y)]) (z g : Nat → Int) (hx : a.eval x = .agg (rwC z).toArray) (hy : a.eval y = .agg (rwC g).toArray)
    (h : K (a.put o.dst (.slice (some ⟨w.heap.size, 0, none⟩) 2 2)) (w.alloc (.cells (rwC z ++ rwC g).toArray 78))) : o.wp Tryz.prog a w K Q := by
  unfold Oper.wp execOp
  have e : (#[(0, x), (1, y)].map fun (p : Nat × Operand) => (p.1, a.eval p.2)) = #[(0, Value.agg (rwC z).toArray), (1, Value.agg (rwC g).toArray)] := by simp [hx, hy]
  simp only [ho, Sem.run_bind]
  rw [show (#[(0, x), (1, y)].map fun (x : Nat × Operand) => match x with | (i, x) => (i, a.eval x)) = #[(0, Value.agg (rwC z).toArray), (1, Value.agg (rwC g).toArray)] from e]
  simp only [run_two, Result.andThen_ok]
  exact h
theorem two_cells {w : World} {B : Nat} {z g : Nat → Int} (h : Blk w B 78 (rwC z ++ rwC g)) : Cells w (some ⟨B, 0, none⟩) 21 rwC [z, g] := fun i x hi => ⟨B, 0, rfl, fun j y hy => by
  have hj : j < 21 := by have := (List.getElem?_eq_some_iff.1 hy).1; rwa [rwC_len] at this
  have hi2 := (List.getElem?_eq_some_iff.1 hi).1
  match i, hi2, hi with
  | 0, _, hi =>
    simp at hi; subst hi
    have := h.cell (i := j) (v := y) (by rw [List.getElem?_append_left (by rw [rwC_len]; exact hj)]; exact hy)
    simpa using this
  | 1, _, hi =>
    simp at hi; subst hi
    have := h.cell (i := 21 + j) (v := y) (by rw [List.getElem?_append_right (by rw [rwC_len]; omega), rwC_len, Nat.add_sub_cancel_left]; exact hy)
    simpa using this
  | k + 2, h, _ => simp only [List.length_cons, List.length_nil] at h; omega⟩
set_option maxHeartbeats 2000000 in
set_option maxRecDepth 100000 in
theorem put_any (F t : Nat) (cs : List Value) (z g : Nat → Int) (w : World) (hF : Blk w F 99 cs) (h6 : cs[6]? = some (.slice (some ⟨t, 0, none⟩) 1 1)) (hT : RwB w t z)
    (hz : ∀ i, -1000000000000 ≤ z i ∧ z i ≤ 1000000000000) (hg : ∀ i, -1000000000000 ≤ g i ∧ g i ≤ 1000000000000) :
    Calls Tryz.prog 41 #[.pointer (some ⟨F, 0, none⟩), .agg #[.int .i64 (-1), .int .i64 0], .agg (rwC g).toArray] w fun e w' => e = .returned (.tuple #[]) ∧ RwB w' t (sumR [z, g]) ∧ Dr.Bel [t] w w' := by
  have x1 := ext_alloc w (.cells #[.int .i64 (-1), .int .i64 0] 60)
  have hP := Blk.new w 60 [.int .i64 (-1), .int .i64 0]
  have x2 := ext_alloc (w.alloc (.cells #[.int .i64 (-1), .int .i64 0] 60)) (.cells (rwC g).toArray 78)
  have hX : RwB ((w.alloc (.cells #[.int .i64 (-1), .int .i64 0] 60)).alloc (.cells (rwC g).toArray 78)) _ g := Blk.new (w.alloc (.cells #[.int .i64 (-1), .int .i64 0] 60)) 78 (rwC g)
  rw [show (w.alloc (.cells #[.int .i64 (-1), .int .i64 0] 60)).heap.size = w.heap.size + 1 by simp] at hX
  have hP1 := Blk.ext hP x2
  have hF1 := (hF.ext x1).ext x2
  have hT1 : RwB ((w.alloc (.cells #[.int .i64 (-1), .int .i64 0] 60)).alloc (.cells (rwC g).toArray 78)) t z := Blk.ext (Blk.ext hT x1) x2
  have hxw := ext_trans x1 x2
  have htl := Blk.lt hT
  clear x1 x2 hP hF hT
  go_enter Tryz.func41, Tryz.ntmps41
  go_upto_region 1 with fail
  change Blk ((w.alloc (.cells #[.int .i64 (-1), .int .i64 0] 60)).alloc (.cells (rwC g).toArray 78)) w.heap.size _ _ at hP1
  generalize (w.alloc (.cells #[.int .i64 (-1), .int .i64 0] 60)).alloc (.cells (rwC g).toArray 78) = W1 at *
  have c6 : W1.cell? ⟨F, 6, none⟩ = _ := hF1.cell (i := 6) h6
  have p0 : W1.cell? ⟨w.heap.size, 0, none⟩ = _ := hP1.cell (i := 0) rfl
  go_upto_region 3 with fail
  clear c6 p0
  refine Dr.wp_region_plan 8 [] (.q [0, 1, 2, 3, 4, 5, 6, 7] .done) (by kernel_rfl) (by kernel_rfl) ?_
  have hx2 := hxw.drew
  have hF2 := hF1.drew
  have hP2 := hP1.drew
  have hT2 : RwB W1.drew t z := Blk.drew hT1
  have hX2 : RwB W1.drew _ g := Blk.drew hX
  clear hxw hF1 hP1 hT1 hX
  generalize World.drew W1 = W2 at *
  have q0 := Dr.cell0 (hF2.cell (i := 6) h6)
  have q1 := Dr.cell0 (hP2.cell (i := 1) rfl)
  with_reducible refine Dr.plan_q (l := [_, _, _, _, _, _, _, _]) (by with_unfolding_all exact rfl) (fun K hK => ?_)
  iterate 8 (go_big_quiet_step (fail))
  refine wpQuiet_nil (hK _ ?_); clear hK K
  clear q0 q1
  refine Dr.plan_end rfl ?_
  go_upto_region 5 with fail
  refine Dr.wp_region_plan 8 [] (.q [0, 1, 2, 3, 4] (.e1 5 (.e1 6 (.q [7] .done)))) (by kernel_rfl) (by kernel_rfl) ?_
  have hx3 := hx2.drew
  have hT3 : RwB W2.drew t z := Blk.drew hT2
  have hX3 : RwB W2.drew _ g := Blk.drew hX2
  clear hx2 hF2 hP2 hT2 hX2
  generalize World.drew W2 = W3 at *
  generalize hXe : w.heap.size = X at *
  with_reducible refine Dr.plan_q (l := [_, _, _, _, _]) (by with_unfolding_all exact rfl) (fun K hK => ?_)
  iterate 3 (go_big_quiet_step (fail))
  refine ldq_row (by rfl) _ rfl t 0 rfl z (row_cls hT3 (by simp)) ?_
  go_frame
  refine ldq_row (by rfl) _ rfl (X + 1) 0 rfl g (row_cls hX3 (by simp)) ?_
  go_frame
  refine wpQuiet_nil (hK _ ?_); clear hK K
  refine Dr.plan_e rfl (by rfl) (fun K hK => ?_)
  refine wp_two _ _ rfl z g rfl rfl ?_
  have hB4 : Blk (W3.alloc (.cells (rwC z ++ rwC g).toArray 78)) W3.heap.size 78 (rwC z ++ rwC g) := Blk.new W3 78 _
  have hx4 := ext_alloc W3 (.cells (rwC z ++ rwC g).toArray 78)
  refine hK _ _ (Dr.Bel.of hx4) ?_; clear hK K
  go_frame
  have hT4 : RwB (W3.alloc (.cells (rwC z ++ rwC g).toArray 78)) t z := Blk.ext hT3 hx4
  have hxw4 := hx3.trans (hx4.mono (by have := hx3.size; omega))
  generalize W3.heap.size = B at *
  generalize W3.alloc (.cells (rwC z ++ rwC g).toArray 78) = W4 at *
  have CS := Lib.hid (sum_any [z, g] (some ⟨B, 0, none⟩) 2 2 W4 rfl (by omega) (two_cells hB4) (by intro f hf; simp at hf; rcases hf with rfl | rfl; exact hz; exact hg))
  clear hX3 hT3 hx4 hB4 hx3
  refine Dr.plan_e rfl (by rfl) (fun K hK => ?_)
  go_wp2_with fail
  refine CS.out.mono ?_; rintro e W5 ⟨rfl, hb5⟩
  refine hK _ _ (Dr.Bel.of hb5) ?_; clear hK K
  unfold rwV
  have hT5 : RwB W5 t z := Blk.ext hT4 hb5
  have hx5 : Below X w W5 := hxw4.trans (hb5.mono (by have := hxw4.size; omega))
  with_reducible refine Dr.plan_q (l := [_]) (by with_unfolding_all exact rfl) (fun K hK => ?_)
  iterate 1 (go_big_quiet_step (fail))
  refine wpQuiet_nil (hK _ ?_); clear hK K
  refine Dr.plan_done (tl := [_]) rfl ?_
  go_wp2_with (first | refine st_row rfl _ _ rfl t 0 (sumR [z, g]) rfl rfl hT5.there ?_)
  have R1 : RwB (W5.setCells t 0 (rwC (sumR [z, g]))) t (sumR [z, g]) := Blk.setAll hT5 (by rw [rwC_len, rwC_len])
  have R2 : Dr.Bel [t] w (W5.setCells t 0 (rwC (sumR [z, g]))) := (Dr.Bel.of (hXe ▸ hx5)).trans (bel_setCells (by simp) _ _ _)
  go_end0
  exact ⟨rfl, R1, R2⟩
end Go.Proofs.YtilkoooahoecfaaGreat.Rg

/- Walk: what is done by an act: the deferred closure. -/
import Derived.Defers
import Derived.Recover
import Derived.Test.YtnjdlhhgnamigaaLedL
namespace Go.Proofs.Ytnjdlhhgnamigaa
open Go.RowKit Go.Bs Go.Pu Go.Pl Go.Sort

theorem catch_idle (p q : Addr) (w : World) :
    CallsD Try.prog 99 #[.pointer (some p), .pointer (some q)] .returning w fun e u' w' => e = .returned (.tuple #[]) ∧ u' = .returning ∧ w' = w := by
  refine callsD_of_wpS Try.func99 rfl fun c₀ cs hu => ?_
  apply wpS_seq
  apply wpS_region
  simp [wpOpsS, go_sem, recoverD, hu, Try.ntmps99, Exit.thenS]
  refine wpS_of_wp ?_
  go_wp2
  cases c₀
  simp_all [bodyPostS, results, Try.results99]

set_option maxRecDepth 100000 in
theorem catch_refused (R E : Nat) (e x : Int) (cs0 : List Value) (older : List PanicEntry) (w : World) (hR : Blk w R 81 cs0) (hl : cs0.length = 8) (hE : Blk w E 30 [.int .i64 x]) (hne : R ≠ E) :
    CallsD Try.prog 99 #[.pointer (some ⟨R, 0, none⟩), .pointer (some ⟨E, 0, none⟩)] (.panicking ({ v := .iface 166 (.agg #[.int .i64 e]), recovered := false } :: older)) w fun r u' w' =>
      r = .returned (.tuple #[]) ∧ u' = .panicking ({ v := .iface 166 (.agg #[.int .i64 e]), recovered := true } :: older) ∧ Dr.Bel [R, E] w w' ∧ Blk w' R 81 lzC ∧ Blk w' E 30 [.int .i64 e] := by
  refine callsD_of_wpS Try.func99 rfl fun c₀ cs hu => ?_
  apply wpS_seq
  apply wpS_region
  simp [wpOpsS, go_sem, recoverD, hu, Try.ntmps99, Exit.thenS]
  refine wpS_of_wp ?_
  simp only [Array.replicate_succ, Array.replicate_zero, List.push_toArray, List.append_toArray, List.nil_append, List.cons_append, List.setIfInBounds_toArray, List.set_cons_succ, List.set_cons_zero]
  have ha : ∀ w, (Instr.typeAssert (.iface 166 (.agg #[.int .i64 e])) 20 166 true).run Try.prog w = .ok (.tuple #[.agg #[.int .i64 e], .bool true]) w := fun _ => by kernel_rfl
  go_upto_region 7 with fail
  have hU := Blk.new w 166 [.int .i64 e]
  have hR1 := hR.alloc (.cells #[.int .i64 e] 166)
  have hE1 := hE.alloc (.cells #[.int .i64 e] 166)
  have hb1 : Dr.Bel [R, E] w (w.alloc (.cells #[.int .i64 e] 166)) := .of (ext_alloc _ _)
  have hlR := hR.lt
  have hlE := hE.lt
  clear hR hE ha
  change Blk (w.alloc (.cells #[.int .i64 e] 166)) _ _ _ at hU
  generalize w.alloc (.cells #[.int .i64 e] 166) = W1 at *
  generalize w.heap.size = U at *
  refine Dr.wp_region_plan 4 [R] (.q [0, 1, 2] (.e1 3 .done)) (by kernel_rfl) (by kernel_rfl) ?_
  have hRd := hR1.drew
  have hEd := hE1.drew
  have hUd := hU.drew
  have hbd : Dr.Bel [R, E] w W1.drew := hb1.trans (.of (ext_drew W1))
  clear hR1 hE1 hU hb1
  generalize W1.drew = W at *
  have q0 := Dr.cls_cell (M := [R]) (hUd.cell (i := 0) rfl) (by simp; omega)
  refine Dr.plan_q (l := [_, _, _]) rfl (fun K hK => ?_)
  iterate 3 (go_big_quiet_step (fail))
  refine wpQuiet_nil (hK _ ?_); clear hK K
  clear q0
  match cs0, hl with
  | [v0, v1, v2, v3, v4, v5, v6, v7], _ =>
    have y0 : W.cell? ⟨R, 0, none⟩ = _ := hRd.cell (i := 0) rfl
    have y1 : W.cell? ⟨R, 1, none⟩ = _ := hRd.cell (i := 1) rfl
    have y2 : W.cell? ⟨R, 2, none⟩ = _ := hRd.cell (i := 2) rfl
    have y3 : W.cell? ⟨R, 3, none⟩ = _ := hRd.cell (i := 3) rfl
    have y4 : W.cell? ⟨R, 4, none⟩ = _ := hRd.cell (i := 4) rfl
    have y5 : W.cell? ⟨R, 5, none⟩ = _ := hRd.cell (i := 5) rfl
    have y6 : W.cell? ⟨R, 6, none⟩ = _ := hRd.cell (i := 6) rfl
    have y7 : W.cell? ⟨R, 7, none⟩ = _ := hRd.cell (i := 7) rfl
    have f0 := hRd.free 0
    have f1 := hRd.free 1
    have f2 := hRd.free 2
    have f3 := hRd.free 3
    have f4 := hRd.free 4
    have f5 := hRd.free 5
    have f6 := hRd.free 6
    have f7 := hRd.free 7
    refine Dr.plan_e rfl (by rfl) (fun K hK => ?_)
    go_wp2_with fail
    generalize hWf : World.setCell _ _ _ = Wf
    have hRf := hRd.put_eq lzC hWf rfl
    have hbf : Dr.Bel [R] W Wf := bel_put_eq lzC hWf
    clear hWf y0 y1 y2 y3 y4 y5 y6 y7 f0 f1 f2 f3 f4 f5 f6 f7
    refine hK _ _ hbf ?_; clear hK K
    have hEf := hbf.blk hEd (by simp; omega)
    have hb2 : Dr.Bel [R, E] w Wf := hbd.trans ⟨hbf.os, hbf.tape, hbf.output, hbf.size, fun k hk hm => hbf.block k hk (by simp at hm ⊢; omega)⟩
    have z0 : Wf.cell? ⟨E, 0, none⟩ = _ := hEf.cell (i := 0) rfl
    have g0 := hEf.free 0
    clear hRd hEd hUd hbd hbf
    refine Dr.plan_done (tl := [_]) rfl ?_
    go_wp2
    have hR9 := hRf.other (p := ⟨E, 0, none⟩) (by simp; omega) (.int .i64 e)
    have hE9 := hEf.set 0 (.int .i64 e)
    have hb9 := hb2.put (p := ⟨E, 0, none⟩) (by simp) (.int .i64 e)
    cases c₀
    refine ⟨rfl, _, rfl, _, by simp [results, Try.results99, go_sem], rfl, rfl, hb9, hR9, hE9⟩
end Go.Proofs.Ytnjdlhhgnamigaa

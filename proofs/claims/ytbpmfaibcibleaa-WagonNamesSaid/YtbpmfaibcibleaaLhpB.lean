/- Walk: Lorry, RightLorry, Fault. (Printed by mk_lhpb.py.) -/
import Derived.Test.YtbpmfaibcibleaaLhpA
import Derived.Test.YtbpmfaibcibleaaSorX
namespace Go.Proofs.Ytbpmfaibcibleaa
open Go.RowKit Go.Bs Go.Wg Go.Pl Go.Sort
set_option maxRecDepth 100000 in
set_option maxHeartbeats 2000000 in
theorem Lorry_any (A : Option Addr) (n c : Nat) (h ca em re ax dk : Int) (l : List Int) (w : World) (hn : l.length = n) (hm : n ≤ 1000000000) (hd : Cells w A 1 Go.Bs.encI l) :
    Calls Try.prog 26 #[.agg #[.slice A n c, .int .i64 h, .int .i64 ca, .int .i64 em, .int .i64 re, .int .i64 ax, .int .i64 dk]] w fun e w' => ∃ A2 c2, e = .returned (.agg #[.slice A2 n c2, .int .i64 h, .int .i64 ca, .int .i64 em, .int .i64 re, .int .i64 ax, .int .i64 dk]) ∧ FreshL w w' 1 Go.Bs.encI (.slice A2 n c2) l ∧ Below w.heap.size w w' := by
  have hP := (Blk.new w 37 [.slice A n c, .int .i64 h, .int .i64 ca, .int .i64 em, .int .i64 re, .int .i64 ax, .int .i64 dk]).alloc (.cells #[.slice none 0 0, .int .i64 0, .int .i64 0, .int .i64 0, .int .i64 0, .int .i64 0, .int .i64 0] 44)
  have hQ := Blk.new (w.alloc (.cells #[.slice A n c, .int .i64 h, .int .i64 ca, .int .i64 em, .int .i64 re, .int .i64 ax, .int .i64 dk] 37)) 44 [.slice none 0 0, .int .i64 0, .int .i64 0, .int .i64 0, .int .i64 0, .int .i64 0, .int .i64 0]
  have hb := (ext_alloc w (.cells #[.slice A n c, .int .i64 h, .int .i64 ca, .int .i64 em, .int .i64 re, .int .i64 ax, .int .i64 dk] 37)).alloc (by rw [World.size_alloc]; omega) (.cells #[.slice none 0 0, .int .i64 0, .int .i64 0, .int .i64 0, .int .i64 0, .int .i64 0, .int .i64 0] 44)
  have hsz : ((w.alloc (.cells #[.slice A n c, .int .i64 h, .int .i64 ca, .int .i64 em, .int .i64 re, .int .i64 ax, .int .i64 dk] 37)).alloc (.cells #[.slice none 0 0, .int .i64 0, .int .i64 0, .int .i64 0, .int .i64 0, .int .i64 0, .int .i64 0] 44)).heap.size = w.heap.size + 2 := by simp
  go_enter Try.func26, Try.ntmps26
  go_upto_region 1 with fail
  rw [World.size_alloc] at hQ
  change Blk ((w.alloc (.cells #[.slice A n c, .int .i64 h, .int .i64 ca, .int .i64 em, .int .i64 re, .int .i64 ax, .int .i64 dk] 37)).alloc (.cells #[.slice none 0 0, .int .i64 0, .int .i64 0, .int .i64 0, .int .i64 0, .int .i64 0, .int .i64 0] 44)) _ _ _ at hP hQ
  generalize (w.alloc (.cells #[.slice A n c, .int .i64 h, .int .i64 ca, .int .i64 em, .int .i64 re, .int .i64 ax, .int .i64 dk] 37)).alloc (.cells #[.slice none 0 0, .int .i64 0, .int .i64 0, .int .i64 0, .int .i64 0, .int .i64 0, .int .i64 0] 44) = W0 at *
  refine Dr.wp_region_plan 16 [] (.q [0, 1, 3, 4, 5, 6, 7, 8, 9, 10, 11, 12, 13, 14] (.e1 2 (.q [15] .done))) (by kernel_rfl) (by kernel_rfl) ?_
  replace hP := hP.drew
  replace hQ := hQ.drew
  replace hb := hb.drew
  replace hsz : W0.drew.heap.size = w.heap.size + 2 := hsz
  generalize World.drew W0 = V at *
  have q0 := Dr.cell0 (hP.cell (i := 0) rfl)
  have q1 := Dr.cell0 (hP.cell (i := 1) rfl)
  have q2 := Dr.cell0 (hP.cell (i := 2) rfl)
  have q3 := Dr.cell0 (hP.cell (i := 3) rfl)
  have q4 := Dr.cell0 (hP.cell (i := 4) rfl)
  have q5 := Dr.cell0 (hP.cell (i := 5) rfl)
  have q6 := Dr.cell0 (hP.cell (i := 6) rfl)
  have Hz := Lib.hid hsz
  clear hsz
  refine Dr.plan_q (l := [_, _, _, _, _, _, _, _, _, _, _, _, _, _]) rfl (fun K hK => ?_)
  iterate 14 (go_big_quiet_step (fail))
  refine wpQuiet_nil (hK _ ?_); clear hK K
  clear q0 q1 q2 q3 q4 q5 q6
  refine Dr.plan_e rfl (by rfl) (fun K hK => ?_)
  go_wp2_with fail
  refine (list_any A n c l V hn hm (hd.ext hb)).mono ?_; rintro e V1 ⟨v, rfl, hv, hx⟩
  refine hK _ _ (.of hx) ?_; clear hK K
  obtain ⟨A2, c2, rfl, g1, g2, g3, g4⟩ := hv
  have hbx := hb.trans (hx.mono hb.size)
  replace hQ := hQ.ext hx
  rw [hn] at g1 ⊢
  refine Dr.plan_q (l := [_]) rfl (fun K hK => ?_)
  iterate 1 (go_big_quiet_step (fail))
  refine wpQuiet_nil (hK _ ?_); clear hK K
  refine Dr.plan_done (tl := [_]) rfl ?_
  have e0 : V1.cell? ⟨w.heap.size + 1, 0, none⟩ = _ := hQ.cell rfl
  have f0 := hQ.free 0
  have e1 : V1.cell? ⟨w.heap.size + 1, 1, none⟩ = _ := hQ.cell rfl
  have f1 := hQ.free 1
  have e2 : V1.cell? ⟨w.heap.size + 1, 2, none⟩ = _ := hQ.cell rfl
  have f2 := hQ.free 2
  have e3 : V1.cell? ⟨w.heap.size + 1, 3, none⟩ = _ := hQ.cell rfl
  have f3 := hQ.free 3
  have e4 : V1.cell? ⟨w.heap.size + 1, 4, none⟩ = _ := hQ.cell rfl
  have f4 := hQ.free 4
  have e5 : V1.cell? ⟨w.heap.size + 1, 5, none⟩ = _ := hQ.cell rfl
  have f5 := hQ.free 5
  have e6 : V1.cell? ⟨w.heap.size + 1, 6, none⟩ = _ := hQ.cell rfl
  have f6 := hQ.free 6
  have hQ4 : Blk (((((((V1.setCell ⟨w.heap.size + 1, 0, none⟩ (.slice A2 n c2)).setCell ⟨w.heap.size + 1, 1, none⟩ (.int .i64 h)).setCell ⟨w.heap.size + 1, 2, none⟩ (.int .i64 ca)).setCell ⟨w.heap.size + 1, 3, none⟩ (.int .i64 em)).setCell ⟨w.heap.size + 1, 4, none⟩ (.int .i64 re)).setCell ⟨w.heap.size + 1, 5, none⟩ (.int .i64 ax)).setCell ⟨w.heap.size + 1, 6, none⟩ (.int .i64 dk)) _ 44 [.slice A2 n c2, .int .i64 h, .int .i64 ca, .int .i64 em, .int .i64 re, .int .i64 ax, .int .i64 dk] := (((((((hQ.set 0 _).set 1 _).set 2 _).set 3 _).set 4 _).set 5 _).set 6 _)
  have hbl : Dr.Bel [w.heap.size + 1] V1 (((((((V1.setCell ⟨w.heap.size + 1, 0, none⟩ (.slice A2 n c2)).setCell ⟨w.heap.size + 1, 1, none⟩ (.int .i64 h)).setCell ⟨w.heap.size + 1, 2, none⟩ (.int .i64 ca)).setCell ⟨w.heap.size + 1, 3, none⟩ (.int .i64 em)).setCell ⟨w.heap.size + 1, 4, none⟩ (.int .i64 re)).setCell ⟨w.heap.size + 1, 5, none⟩ (.int .i64 ax)).setCell ⟨w.heap.size + 1, 6, none⟩ (.int .i64 dk)) := ((((((((Dr.Bel.refl _ _).put (by simp) _).put (by simp) _).put (by simp) _).put (by simp) _).put (by simp) _).put (by simp) _).put (by simp) _)
  go_wp2
  generalize (((((((V1.setCell ⟨w.heap.size + 1, 0, none⟩ (.slice A2 n c2)).setCell ⟨w.heap.size + 1, 1, none⟩ (.int .i64 h)).setCell ⟨w.heap.size + 1, 2, none⟩ (.int .i64 ca)).setCell ⟨w.heap.size + 1, 3, none⟩ (.int .i64 em)).setCell ⟨w.heap.size + 1, 4, none⟩ (.int .i64 re)).setCell ⟨w.heap.size + 1, 5, none⟩ (.int .i64 ax)).setCell ⟨w.heap.size + 1, 6, none⟩ (.int .i64 dk)) = W4 at *
  clear e0 e1 e2 e3 e4 e5 e6 f0 f1 f2 f3 f4 f5 f6
  have k0 : W4.cell? ⟨w.heap.size + 1, 0, none⟩ = _ := hQ4.cell rfl
  have k1 : W4.cell? ⟨w.heap.size + 1, 1, none⟩ = _ := hQ4.cell rfl
  have k2 : W4.cell? ⟨w.heap.size + 1, 2, none⟩ = _ := hQ4.cell rfl
  have k3 : W4.cell? ⟨w.heap.size + 1, 3, none⟩ = _ := hQ4.cell rfl
  have k4 : W4.cell? ⟨w.heap.size + 1, 4, none⟩ = _ := hQ4.cell rfl
  have k5 : W4.cell? ⟨w.heap.size + 1, 5, none⟩ = _ := hQ4.cell rfl
  have k6 : W4.cell? ⟨w.heap.size + 1, 6, none⟩ = _ := hQ4.cell rfl
  refine bodyPost_ret (v := .agg #[.slice A2 n c2, .int .i64 h, .int .i64 ca, .int .i64 em, .int .i64 re, .int .i64 ax, .int .i64 dk]) (by simp [results, Try.results26, go_sem, k0, k1, k2, k3, k4, k5, k6]) rfl ?_
  have hwf := hbx.trans (hbl.old hbx.size (by simp))
  refine ⟨A2, c2, rfl, ⟨A2, c2, by rw [hn], by rw [hn]; exact g1, g2, ?_, fun k hk => ?_⟩, hwf⟩
  · exact Dr.cells_bel g3 hbl (fun k hk => by have := g4 k hk; have := Hz.out; simp; omega)
  · have := g4 k hk; have := Hz.out; have := hbl.size; omega
end Go.Proofs.Ytbpmfaibcibleaa

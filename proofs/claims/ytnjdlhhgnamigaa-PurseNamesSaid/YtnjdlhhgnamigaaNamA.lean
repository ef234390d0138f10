/- Walk: the law PurseNames. -/
import Derived.Test.YtnjdlhhgnamigaaAwC
import Derived.Test.YtnjdlhhgnamigaaLgnB
import Derived.Test.YtnjdlhhgnamigaaCoiB
import Derived.Test.YtnjdlhhgnamigaaTilX
import Derived.Test.YtnjdlhhgnamigaaPuQ
namespace Go.Pu
open Go.Pl
theorem nm_c1 : changeR ⟨[5, 4, 1], [1, 1, 3]⟩ 8 = ([1, 0, 3], 0) := by decide +kernel
theorem nm_c2 : changeR ⟨[5, 4, 1], [1, 1, 2]⟩ 3 = ([], 7) := by decide +kernel
theorem nm_c3 : changeR ⟨[5, 4, 1], [1, 1, 2]⟩ 5001 = ([], 2) := by decide +kernel
theorem nm_gok : Tl.okB ⟨[5, 4, 1], [1, 1, 2]⟩ = true := by decide +kernel
theorem nm_gap : IsGap (fun a => decide (Tl.row ⟨[5, 4, 1], [1, 1, 2]⟩ 0 a ≠ 401)) (Tl.whole ⟨[5, 4, 1], [1, 1, 2]⟩) 3 :=
  ⟨by decide +kernel, by decide +kernel, fun _ => by decide +kernel⟩
theorem nm_zero : Tl.okB ⟨[], []⟩ = false := by decide +kernel
def ldN : Led := ⟨[10, 50], [⟨0, 7, 120, 0, 9, true⟩], 150, 400, 600, 30, 20, [⟨0, 20, true⟩]⟩
def ldO : Led := ⟨[10, 50], [⟨0, 7, 120, 0, 9, true⟩], 150, 400, 600, 30, 21, [⟨0, 20, true⟩]⟩
theorem nm_run : runR lb dayL = (ldN, [0, 0, 0, 0, 0, 0], 0) := by decide +kernel
theorem nm_t1 : (if ldN.okB then ldN.total else 0) = 610 := by decide +kernel
theorem nm_t2 : (if ldN.okB then (0 : Int) else 1) = 0 := by decide +kernel
theorem nm_mis : ldN.missP 0 = (20, 1, 0) := by decide +kernel
theorem nm_ko : (if ldO.okB then (0 : Int) else 1) = 1 := by decide +kernel
theorem nm_d1 : (doF ldN ⟨9, 0, 0, 0, 0, 0⟩) = (Led.zero, 1) := by decide +kernel
theorem nm_d2 : (doF ldN ⟨6, 0, 0, 0, 0, 0⟩) = (Led.zero, 8) := by decide +kernel
theorem nm_d3 : (doF ldN ⟨4, 0, 0, 9, 1, 0⟩) = (Led.zero, 6) := by decide +kernel
theorem nm_d4 : (doF ldN ⟨8, 0, 0, 0, 401, 0⟩) = (Led.zero, 7) := by decide +kernel
theorem nm_d5 : (doF lb ⟨2, 0, 0, 0, 1000000000000, 0⟩) = (Led.zero, 3) := by decide +kernel
theorem nm_d6 : (doF lb ⟨1, 2, 0, 0, 1, 0⟩) = (Led.zero, 2) := by decide +kernel
def weekX : Wk := ⟨[⟨1000, 3, 2, 100⟩, ⟨301, 1, 3, 50⟩], 90, [⟨1, 500, 300⟩, ⟨0, 1000, 0⟩]⟩
def weekY : Wk := ⟨[⟨1000, 3, 2, 100⟩, ⟨301, 1, 3, 50⟩], 90, [⟨1, 500, 1001⟩, ⟨0, 1000, 0⟩]⟩
theorem nm_xok : weekX.okB = true := by decide +kernel
theorem nm_xp : weekX.settle.paid = [355, 1000] := by decide +kernel
theorem nm_xs : weekX.settle.short = [145, 0] := by decide +kernel
theorem nm_xe : weekX.settle.extra = [0, 0] := by decide +kernel
theorem nm_xr : weekX.settle.rest = 0 := by decide +kernel
theorem nm_y2 : (settleR weekY).2 = 1 := by decide +kernel
end Go.Pu
namespace Go.Proofs.Ytnjdlhhgnamigaa
open Go.RowKit Go.Bs Go.Pu Go.Pl Go.Sort
theorem week_blk (w : World) : Calls Try.prog 58 #[] w fun e w' => ∃ g1 g2, e = .returned (wkV (some ⟨g1, 0, none⟩) 2 2 weekW.premium (some ⟨g2, 0, none⟩) 2 2) ∧ Blk w' g1 58 (weekW.ctys.flatMap Cty.enc) ∧ Blk w' g2 125 (weekW.ctrs.flatMap Ctr.enc) ∧ w.heap.size ≤ g1 ∧ g1 < g2 ∧ Below w.heap.size w w' := by
  go_enter Try.func58, Try.ntmps58
  go_wp2
  have hR := ((Blk.new w 36 [.slice (some ⟨w.heap.size + 1, 0, none⟩) 2 2, .int .i64 90, .slice (some ⟨w.heap.size + 1 + 1, 0, none⟩) 2 2]).alloc (.cells (weekW.ctys.flatMap Cty.enc).toArray 58)).alloc (.cells (weekW.ctrs.flatMap Ctr.enc).toArray 125)
  have h1 := (Blk.new (w.alloc (.cells #[.slice (some ⟨w.heap.size + 1, 0, none⟩) 2 2, .int .i64 90, .slice (some ⟨w.heap.size + 1 + 1, 0, none⟩) 2 2] 36)) 58 (weekW.ctys.flatMap Cty.enc)).alloc (.cells (weekW.ctrs.flatMap Ctr.enc).toArray 125)
  have h2 := Blk.new ((w.alloc (.cells #[.slice (some ⟨w.heap.size + 1, 0, none⟩) 2 2, .int .i64 90, .slice (some ⟨w.heap.size + 1 + 1, 0, none⟩) 2 2] 36)).alloc (.cells (weekW.ctys.flatMap Cty.enc).toArray 58)) 125 (weekW.ctrs.flatMap Ctr.enc)
  simp only [World.size_alloc] at h1 h2
  have hb : Below w.heap.size w (((w.alloc (.cells #[.slice (some ⟨w.heap.size + 1, 0, none⟩) 2 2, .int .i64 90, .slice (some ⟨w.heap.size + 1 + 1, 0, none⟩) 2 2] 36)).alloc (.cells (weekW.ctys.flatMap Cty.enc).toArray 58)).alloc (.cells (weekW.ctrs.flatMap Ctr.enc).toArray 125)) := (((Below.refl _ _).alloc (Nat.le_refl _) _).alloc (by simp) _).alloc (by simp; omega) _
  change bodyPost Try.prog Try.f58 _ Exit.ret _ (((w.alloc (.cells #[.slice (some ⟨w.heap.size + 1, 0, none⟩) 2 2, .int .i64 90, .slice (some ⟨w.heap.size + 1 + 1, 0, none⟩) 2 2] 36)).alloc (.cells (weekW.ctys.flatMap Cty.enc).toArray 58)).alloc (.cells (weekW.ctrs.flatMap Ctr.enc).toArray 125))
  generalize (((w.alloc (.cells #[.slice (some ⟨w.heap.size + 1, 0, none⟩) 2 2, .int .i64 90, .slice (some ⟨w.heap.size + 1 + 1, 0, none⟩) 2 2] 36)).alloc (.cells (weekW.ctys.flatMap Cty.enc).toArray 58)).alloc (.cells (weekW.ctrs.flatMap Ctr.enc).toArray 125)) = W at *
  have o0 : W.cell? ⟨w.heap.size, 0, none⟩ = _ := hR.cell (i := 0) rfl
  have o1 : W.cell? ⟨w.heap.size, 1, none⟩ = _ := hR.cell (i := 1) rfl
  have o2 : W.cell? ⟨w.heap.size, 2, none⟩ = _ := hR.cell (i := 2) rfl
  refine bodyPost_ret (v := wkV (some ⟨w.heap.size + 1, 0, none⟩) 2 2 weekW.premium (some ⟨w.heap.size + 1 + 1, 0, none⟩) 2 2) (by simp [results, Try.results58, go_sem, o0, o1, o2, wkV, weekW]) rfl ?_
  exact ⟨_, _, rfl, h1, h2, by omega, by omega, hb⟩
set_option maxRecDepth 100000 in
set_option maxHeartbeats 16000000 in
theorem names_law (w : World) : Calls Try.prog 15 #[] w fun e w' => e = .returned (.bool true) ∧ Below w.heap.size w w' := by
  go_enter Try.func15, Try.ntmps15
  go_upto_region 2 with fail
  have hbw : Below w.heap.size w (((w.alloc (.cells #[.int .i64 5, .int .i64 4, .int .i64 1] 3)).alloc (.cells #[.int .i64 1, .int .i64 1, .int .i64 3] 3)).alloc (.cells #[.slice (some ⟨w.heap.size, 0, none⟩) 3 3, .slice (some ⟨w.heap.size + 1, 0, none⟩) 3 3] 66)) := ((((Below.refl _ _).alloc (Nat.le_refl _) _).alloc (by simp) _).alloc (by simp; omega) _)
  have hV := ((Blk.new w 3 [.int .i64 5, .int .i64 4, .int .i64 1]).alloc (.cells #[.int .i64 1, .int .i64 1, .int .i64 3] 3)).alloc (.cells #[.slice (some ⟨w.heap.size, 0, none⟩) 3 3, .slice (some ⟨w.heap.size + 1, 0, none⟩) 3 3] 66)
  have hC := (Blk.new (w.alloc (.cells #[.int .i64 5, .int .i64 4, .int .i64 1] 3)) 3 [.int .i64 1, .int .i64 1, .int .i64 3]).alloc (.cells #[.slice (some ⟨w.heap.size, 0, none⟩) 3 3, .slice (some ⟨w.heap.size + 1, 0, none⟩) 3 3] 66)
  have hT := Blk.new ((w.alloc (.cells #[.int .i64 5, .int .i64 4, .int .i64 1] 3)).alloc (.cells #[.int .i64 1, .int .i64 1, .int .i64 3] 3)) 66 [.slice (some ⟨w.heap.size, 0, none⟩) 3 3, .slice (some ⟨w.heap.size + 1, 0, none⟩) 3 3]
  simp only [World.size_alloc] at hC hT
  have hsz : (((w.alloc (.cells #[.int .i64 5, .int .i64 4, .int .i64 1] 3)).alloc (.cells #[.int .i64 1, .int .i64 1, .int .i64 3] 3)).alloc (.cells #[.slice (some ⟨w.heap.size, 0, none⟩) 3 3, .slice (some ⟨w.heap.size + 1, 0, none⟩) 3 3] 66)).heap.size = w.heap.size + 3 := by simp
  change Blk (((w.alloc (.cells #[.int .i64 5, .int .i64 4, .int .i64 1] 3)).alloc (.cells #[.int .i64 1, .int .i64 1, .int .i64 3] 3)).alloc (.cells #[.slice (some ⟨w.heap.size, 0, none⟩) 3 3, .slice (some ⟨w.heap.size + 1, 0, none⟩) 3 3] 66)) _ _ _ at hV
  change Blk (((w.alloc (.cells #[.int .i64 5, .int .i64 4, .int .i64 1] 3)).alloc (.cells #[.int .i64 1, .int .i64 1, .int .i64 3] 3)).alloc (.cells #[.slice (some ⟨w.heap.size, 0, none⟩) 3 3, .slice (some ⟨w.heap.size + 1, 0, none⟩) 3 3] 66)) _ _ _ at hC
  change Blk (((w.alloc (.cells #[.int .i64 5, .int .i64 4, .int .i64 1] 3)).alloc (.cells #[.int .i64 1, .int .i64 1, .int .i64 3] 3)).alloc (.cells #[.slice (some ⟨w.heap.size, 0, none⟩) 3 3, .slice (some ⟨w.heap.size + 1, 0, none⟩) 3 3] 66)) _ _ _ at hT
  change Below _ _ (((w.alloc (.cells #[.int .i64 5, .int .i64 4, .int .i64 1] 3)).alloc (.cells #[.int .i64 1, .int .i64 1, .int .i64 3] 3)).alloc (.cells #[.slice (some ⟨w.heap.size, 0, none⟩) 3 3, .slice (some ⟨w.heap.size + 1, 0, none⟩) 3 3] 66)) at hbw
  change (((w.alloc (.cells #[.int .i64 5, .int .i64 4, .int .i64 1] 3)).alloc (.cells #[.int .i64 1, .int .i64 1, .int .i64 3] 3)).alloc (.cells #[.slice (some ⟨w.heap.size, 0, none⟩) 3 3, .slice (some ⟨w.heap.size + 1, 0, none⟩) 3 3] 66)).heap.size = _ at hsz
  generalize (((w.alloc (.cells #[.int .i64 5, .int .i64 4, .int .i64 1] 3)).alloc (.cells #[.int .i64 1, .int .i64 1, .int .i64 3] 3)).alloc (.cells #[.slice (some ⟨w.heap.size, 0, none⟩) 3 3, .slice (some ⟨w.heap.size + 1, 0, none⟩) 3 3] 66)) = W0 at *
  have x0 : W0.cell? ⟨w.heap.size + 2, 0, none⟩ = _ := hT.cell (i := 0) rfl
  have x1 : W0.cell? ⟨w.heap.size + 2, 1, none⟩ = _ := hT.cell (i := 1) rfl
  have CC := Lib.hid (Change_any ⟨[5, 4, 1], [1, 1, 3]⟩ (some ⟨w.heap.size, 0, none⟩) (some ⟨w.heap.size + 1, 0, none⟩) 3 3 3 3 8 W0 rfl rfl (by omega) (by omega) (blk_cells encI_len hV) (blk_cells encI_len hC))
  rw [nm_c1] at CC
  unfold tlV at CC
  go_wp2_with fail
  refine CC.out.mono ?_; rintro r W4 ⟨v1, rfl, ⟨A1, c1, rfl, -, -, hc1, ha1⟩, hb⟩
  have hsz4 := hb.size
  replace hbw := ext_trans hbw hb
  replace hV := hV.ext hb
  replace hC := hC.ext hb
  replace hT := hT.ext hb
  clear hb CC x0 x1
  simp only [List.map_cons, List.map_nil, List.length_cons, List.length_nil, Nat.zero_add, Nat.reduceAdd] at hc1 ⊢
  go_upto_region 3 with fail
  have x1 : W4.cell? ⟨w.heap.size + 2, 1, none⟩ = _ := hT.cell (i := 1) rfl
  have y2 : W4.cell? ⟨w.heap.size + 1, 2, none⟩ = _ := hC.cell (i := 2) rfl
  have f2 := hC.free 2
  have hbf := Dr.Bel.store (M := [w.heap.size + 1]) (w := W4) (p := ⟨w.heap.size + 1, 2, none⟩) (by simp) (.int .i64 2)
  have hC2 := hC.set 2 (.int .i64 2)
  replace hV := hbf.blk hV (by simp)
  replace hT := hbf.blk hT (by simp)
  replace hbw := hbw.trans (hbf.old (n := w.heap.size) (by omega) (by simp))
  replace hc1 := cells_bel hc1 hbf (fun k hk hm => by have := (ha1 k hk).1; simp at hm; omega)
  clear hC hbf
  go_upto_region 4 with fail
  clear x1 y2 f2
  generalize W4.setCell ⟨w.heap.size + 1, 2, none⟩ (.int .i64 2) = W5 at *
  change Blk W5 _ _ [.int .i64 1, .int .i64 1, .int .i64 2] at hC2
  have x0 : W5.cell? ⟨w.heap.size + 2, 0, none⟩ = _ := hT.cell (i := 0) rfl
  have x1 : W5.cell? ⟨w.heap.size + 2, 1, none⟩ = _ := hT.cell (i := 1) rfl
  have CC := Lib.hid (Gap_any ⟨[5, 4, 1], [1, 1, 2]⟩ (some ⟨w.heap.size, 0, none⟩) (some ⟨w.heap.size + 1, 0, none⟩) 3 3 3 3 W5 rfl rfl (by omega) (by omega) (blk_cells encI_len hV) (blk_cells encI_len hC2))
  unfold tlV at CC
  go_wp2_with fail
  refine CC.out.mono ?_; rintro r W6 ⟨g, er, rfl, hd, hb⟩
  rcases hd with ⟨h, -, -⟩ | ⟨-, rfl, hg⟩
  · rw [nm_gok] at h; cases h
  obtain rfl : g = 3 := hg.uniq nm_gap
  clear hg
  replace hbw := ext_trans hbw hb
  replace hV := hV.ext hb
  replace hT := hT.ext hb
  replace hC2 := hC2.ext hb
  replace hc1 := hc1.ext hb
  clear hb CC x0 x1
  go_upto_region 5 with fail
  have x0 : W6.cell? ⟨w.heap.size + 2, 0, none⟩ = _ := hT.cell (i := 0) rfl
  have x1 : W6.cell? ⟨w.heap.size + 2, 1, none⟩ = _ := hT.cell (i := 1) rfl
  have CC := Lib.hid (Change_any ⟨[5, 4, 1], [1, 1, 2]⟩ (some ⟨w.heap.size, 0, none⟩) (some ⟨w.heap.size + 1, 0, none⟩) 3 3 3 3 3 W6 rfl rfl (by omega) (by omega) (blk_cells encI_len hV) (blk_cells encI_len hC2))
  rw [nm_c2] at CC
  unfold tlV at CC
  go_wp2_with fail
  refine CC.out.mono ?_; rintro r W7 ⟨v2, rfl, -, hb⟩
  replace hbw := ext_trans hbw hb
  replace hV := hV.ext hb
  replace hT := hT.ext hb
  replace hC2 := hC2.ext hb
  replace hc1 := hc1.ext hb
  clear hb CC x0 x1
  go_upto_region 6 with fail
  have x0 : W7.cell? ⟨w.heap.size + 2, 0, none⟩ = _ := hT.cell (i := 0) rfl
  have x1 : W7.cell? ⟨w.heap.size + 2, 1, none⟩ = _ := hT.cell (i := 1) rfl
  have CC := Lib.hid (Change_any ⟨[5, 4, 1], [1, 1, 2]⟩ (some ⟨w.heap.size, 0, none⟩) (some ⟨w.heap.size + 1, 0, none⟩) 3 3 3 3 5001 W7 rfl rfl (by omega) (by omega) (blk_cells encI_len hV) (blk_cells encI_len hC2))
  rw [nm_c3] at CC
  unfold tlV at CC
  go_wp2_with fail
  refine CC.out.mono ?_; rintro r W8 ⟨v3, rfl, -, hb⟩
  replace hbw := ext_trans hbw hb
  replace hV := hV.ext hb
  replace hT := hT.ext hb
  replace hC2 := hC2.ext hb
  replace hc1 := hc1.ext hb
  clear hb CC x0 x1
  go_upto_region 7 with fail
  clear hV hC2 hT ha1
  have D5 := ints_cells [1, 0, 3] W8
  have CC := Lib.hid (ints_any A1 _ 3 3 c1 3 [1, 0, 3] [1, 0, 3] _ rfl rfl (by omega) (by omega) (hc1.alloc (.cells (([1, 0, 3] : List Int).map (Value.int .i64)).toArray 3)) D5)
  have hAl := ext_alloc W8 (.cells #[.int .i64 1, .int .i64 0, .int .i64 3] 3)
  clear D5
  rw [decide_eq_true (rfl : [1, 0, 3] = ([1, 0, 3] : List Int))] at CC
  simp only [List.map_cons, List.map_nil] at CC
  go_wp2_with fail
  refine CC.out.mono ?_; rintro r W9 ⟨rfl, hb8⟩
  have hb := ext_trans hAl hb8
  replace hbw := ext_trans hbw hb
  replace hc1 := hc1.ext hb
  clear CC hb hb8 hAl 
  clear hc1
  go_upto_region 9 with fail
  have D5 := ints_cells [100, 0] W9
  have CC := Lib.hid (Begin_any [100, 0] _ 2 2 500 _ rfl (by omega) D5)
  rw [begin_lb] at CC
  simp only [List.map_cons, List.map_nil] at CC
  have hAl := ext_alloc W9 (.cells #[.int .i64 100, .int .i64 0] 3)
  clear D5
  go_wp2_with fail
  refine CC.out.mono ?_; rintro r W10 ⟨v4, rfl, ⟨A2, n2, c2, B2, m2, d2, D2, q2, e2, rfl, hLb⟩, hb8⟩
  have hb := ext_trans hAl hb8
  replace hbw := ext_trans hbw hb
  clear hb hb8 hAl CC
  unfold ledV
  have hal := ext_alloc W10 (.cells #[.slice A2 n2 c2, .slice B2 m2 d2, .int .i64 lb.office, .int .i64 lb.bank, .int .i64 lb.begun, .int .i64 lb.inn, .int .i64 lb.out, .slice D2 q2 e2] 81)
  have hQ := Blk.new W10 81 [.slice A2 n2 c2, .slice B2 m2 d2, .int .i64 lb.office, .int .i64 lb.bank, .int .i64 lb.begun, .int .i64 lb.inn, .int .i64 lb.out, .slice D2 q2 e2]
  replace hLb := hLb.ext hal
  replace hbw := ext_trans hbw hal
  go_upto_region 10 with fail
  change Blk (W10.alloc (.cells #[.slice A2 n2 c2, .slice B2 m2 d2, .int .i64 lb.office, .int .i64 lb.bank, .int .i64 lb.begun, .int .i64 lb.inn, .int .i64 lb.out, .slice D2 q2 e2] 81)) _ _ _ at hQ
  clear hal
  generalize W10.heap.size = Q at *
  generalize W10.alloc (.cells #[.slice A2 n2 c2, .slice B2 m2 d2, .int .i64 lb.office, .int .i64 lb.bank, .int .i64 lb.begun, .int .i64 lb.inn, .int .i64 lb.out, .slice D2 q2 e2] 81) = W11 at *
  have CR := Lib.hid (fun W g hZ hL => Run_any lb A2 n2 c2 B2 m2 d2 D2 q2 e2 W hL dayL (some ⟨g, 0, none⟩) 6 6 rfl (by omega) hZ)
  have CD := Lib.hid day_any
  rw [nm_run] at CR
  unfold ledV at CR
  have hQl := hQ.lt
  have HQ := Lib.hid (fun W hb => hQ.ext (w' := W) hb)
  have HL := Lib.hid (fun W hb => hLb.ext (w' := W) hb)
  go_cut [11, 12, 5] (fun y z u W => ∃ P5 A3 n3 c3 B3 m3 d3 D3 q3 e3 Au cu, y = .pointer (some ⟨P5, 0, none⟩) ∧ z = .slice Au 6 cu ∧ u = .int .i64 0 ∧ W11.heap.size ≤ P5 ∧ Blk W P5 81 [.slice A3 n3 c3, .slice B3 m3 d3, .int .i64 ldN.office, .int .i64 ldN.bank, .int .i64 ldN.begun, .int .i64 ldN.inn, .int .i64 ldN.out, .slice D3 q3 e3] ∧ LedM W ldN A3 n3 B3 m3 D3 q3 ∧ LedOff P5 A3 n3 B3 m3 D3 q3 ∧ Below W11.heap.size W11 W)
  case first =>
    refine Dr.Any.wp_region_plan 11 (Dr.Any.from_ W11.drew.heap.size) (.q [0] (.e2 1 (.e2 2 (.q [3, 4, 5, 6] (.e1 7 (.e1 8 (.q [9, 10] .done)))) 7 (.e1 2 (.q [3, 4, 5, 6] (.e1 8 (.q [9, 10] .done))))) 7 (.e1 1 (.e1 2 (.q [3, 4, 5, 6] (.e1 8 (.q [9, 10] .done))))))) (by kernel_rfl) (by kernel_rfl) ?_
    have hbd := ext_drew W11
    have hPd := hQ.ext hbd
    have hLd := hLb.ext hbd
    have hs0 := hbd.size
    clear hQ hLb
    generalize W11.drew = V0 at *
    have hbv := Below.refl V0.heap.size V0
    have qq0 := Dr.Any.cls_cell (M := Dr.Any.from_ V0.heap.size) (hPd.cell (i := 0) rfl) (by rw [Dr.Any.mem_from]; simp only; omega)
    have qq1 := Dr.Any.cls_cell (M := Dr.Any.from_ V0.heap.size) (hPd.cell (i := 1) rfl) (by rw [Dr.Any.mem_from]; simp only; omega)
    have qq2 := Dr.Any.cls_cell (M := Dr.Any.from_ V0.heap.size) (hPd.cell (i := 2) rfl) (by rw [Dr.Any.mem_from]; simp only; omega)
    have qq3 := Dr.Any.cls_cell (M := Dr.Any.from_ V0.heap.size) (hPd.cell (i := 3) rfl) (by rw [Dr.Any.mem_from]; simp only; omega)
    have qq4 := Dr.Any.cls_cell (M := Dr.Any.from_ V0.heap.size) (hPd.cell (i := 4) rfl) (by rw [Dr.Any.mem_from]; simp only; omega)
    have qq5 := Dr.Any.cls_cell (M := Dr.Any.from_ V0.heap.size) (hPd.cell (i := 5) rfl) (by rw [Dr.Any.mem_from]; simp only; omega)
    have qq6 := Dr.Any.cls_cell (M := Dr.Any.from_ V0.heap.size) (hPd.cell (i := 6) rfl) (by rw [Dr.Any.mem_from]; simp only; omega)
    have qq7 := Dr.Any.cls_cell (M := Dr.Any.from_ V0.heap.size) (hPd.cell (i := 7) rfl) (by rw [Dr.Any.mem_from]; simp only; omega)
    refine Dr.Any.plan_q (l := [_]) rfl (fun K hK => ?_)
    iterate 1 (go_big_quiet_step (fail))
    refine wpQuiet_nil (hK _ ?_); clear hK K
    clear qq0 qq1 qq2 qq3 qq4 qq5 qq6 qq7 hPd
    refine Dr.Any.plan_e2 ?_ ?_
    · skip
      refine Dr.Any.plan_e rfl (by rfl) (fun K hK => ?_)
      go_wp2_with fail
      refine (CD.out _).mono ?_; rintro r V1 ⟨g, rfl, hZ, hbn⟩
      refine hK _ _ (.of hbn) ?_; clear hK K
      replace hLd := hLd.ext hbn
      replace hbv := ext_trans hbv hbn
      have hsV1 := hbn.size
      refine Dr.Any.plan_e2 ?_ ?_
      · skip
        refine Dr.Any.plan_e rfl (by rfl) (fun K hK => ?_)
        go_wp2_with fail
        refine (CR.out _ g hZ hLd).mono ?_; rintro r V2 ⟨v6, u6, rfl, ⟨A3, n3, c3, B3, m3, d3, D3, q3, e3, rfl, L6⟩, ⟨Au, cu, rfl, -, -, -, -⟩, hbn⟩
        unfold ledV
        refine hK _ _ (.of hbn) ?_; clear hK K
        clear hLd
        replace hbv := ext_trans hbv hbn
        have hsV2 := hbn.size
        refine Dr.Any.plan_q (l := [_, _, _, _]) rfl (fun K hK => ?_)
        iterate 4 (go_big_quiet_step (fail))
        refine wpQuiet_nil (hK _ ?_); clear hK K
        refine Dr.Any.plan_e rfl (by rfl) (fun K hK => ?_)
        go_wp2_with fail
        refine hK _ _ (.of (ext_alloc _ _)) ?_; clear hK K
        have hP5 := Blk.new V2 81 [.slice none 0 0, .slice none 0 0, .int .i64 0, .int .i64 0, .int .i64 0, .int .i64 0, .int .i64 0, .slice none 0 0]
        have hAl := ext_alloc V2 (.cells #[.slice none 0 0, .slice none 0 0, .int .i64 0, .int .i64 0, .int .i64 0, .int .i64 0, .int .i64 0, .slice none 0 0] 81)
        replace hbv := ext_trans hbv hAl
        have hsV3 := hAl.size
        have hP5g : V0.heap.size ≤ V2.heap.size := by omega
        change Blk (V2.alloc (.cells #[.slice none 0 0, .slice none 0 0, .int .i64 0, .int .i64 0, .int .i64 0, .int .i64 0, .int .i64 0, .slice none 0 0] 81)) _ _ _ at hP5
        have L7 := L6.ext hAl
        clear hAl
        generalize hP5e : V2.heap.size = P5 at *
        generalize V2.alloc (.cells #[.slice none 0 0, .slice none 0 0, .int .i64 0, .int .i64 0, .int .i64 0, .int .i64 0, .int .i64 0, .slice none 0 0] 81) = V3 at *
        have hP5l := hP5.lt
        have y0 : V3.cell? ⟨P5, 0, none⟩ = _ := hP5.cell (i := 0) rfl
        have y1 : V3.cell? ⟨P5, 1, none⟩ = _ := hP5.cell (i := 1) rfl
        have y2 : V3.cell? ⟨P5, 2, none⟩ = _ := hP5.cell (i := 2) rfl
        have y3 : V3.cell? ⟨P5, 3, none⟩ = _ := hP5.cell (i := 3) rfl
        have y4 : V3.cell? ⟨P5, 4, none⟩ = _ := hP5.cell (i := 4) rfl
        have y5 : V3.cell? ⟨P5, 5, none⟩ = _ := hP5.cell (i := 5) rfl
        have y6 : V3.cell? ⟨P5, 6, none⟩ = _ := hP5.cell (i := 6) rfl
        have y7 : V3.cell? ⟨P5, 7, none⟩ = _ := hP5.cell (i := 7) rfl
        have f0 := hP5.free 0
        have f1 := hP5.free 1
        have f2 := hP5.free 2
        have f3 := hP5.free 3
        have f4 := hP5.free 4
        have f5 := hP5.free 5
        have f6 := hP5.free 6
        have f7 := hP5.free 7
        refine Dr.Any.plan_e rfl (by rfl) (fun K hK => ?_)
        go_wp2_with fail
        generalize hWf : World.setCell _ _ (Value.slice D3 q3 e3) = Wf
        have hPf := hP5.put_eq [.slice A3 n3 c3, .slice B3 m3 d3, .int .i64 ldN.office, .int .i64 ldN.bank, .int .i64 ldN.begun, .int .i64 ldN.inn, .int .i64 ldN.out, .slice D3 q3 e3] hWf rfl
        have hbf : Dr.Bel [P5] V3 Wf := bel_put_eq [.slice A3 n3 c3, .slice B3 m3 d3, .int .i64 ldN.office, .int .i64 ldN.bank, .int .i64 ldN.begun, .int .i64 ldN.inn, .int .i64 ldN.out, .slice D3 q3 e3] hWf
        clear hWf y0 y1 y2 y3 y4 y5 y6 y7 f0 f1 f2 f3 f4 f5 f6 f7
        refine hK _ _ (bel_any hbf (by rw [Dr.Any.mem_from]; omega)) ?_; clear hK K
        refine Dr.Any.plan_q (l := [_, _]) rfl (fun K hK => ?_)
        iterate 2 (go_big_quiet_step (fail))
        refine wpQuiet_nil (hK _ ?_); clear hK K
        have hoff : LedOff P5 A3 n3 B3 m3 D3 q3 := ⟨fun _ h => by have := (L6.fa _ h).2; omega, fun _ h => by have := (L6.fb _ h).2; omega, fun _ h => by have := (L6.fd _ h).2; omega⟩
        refine Dr.Any.plan_end rfl ?_
        go_wp2
        go_meet
        case rel => exact ⟨P5, A3, n3, c3, B3, m3, d3, D3, q3, e3, Au, cu, rfl, rfl, rfl, by omega, hPf, L7.m.bel1 hoff hbf, hoff, ext_trans hbd (hbv.trans (hbf.old (by omega) (by simp; omega)))⟩
      · skip
        refine Dr.Any.plan_e rfl (by rfl) (fun K hK => ?_)
        go_wp2_with fail
        refine hK _ _ (.of (ext_alloc _ _)) ?_; clear hK K
        have hP5 := Blk.new V1 81 [.slice none 0 0, .slice none 0 0, .int .i64 0, .int .i64 0, .int .i64 0, .int .i64 0, .int .i64 0, .slice none 0 0]
        have hAl := ext_alloc V1 (.cells #[.slice none 0 0, .slice none 0 0, .int .i64 0, .int .i64 0, .int .i64 0, .int .i64 0, .int .i64 0, .slice none 0 0] 81)
        replace hbv := ext_trans hbv hAl
        have hsV2 := hAl.size
        have hP5g : V0.heap.size ≤ V1.heap.size := by omega
        change Blk (V1.alloc (.cells #[.slice none 0 0, .slice none 0 0, .int .i64 0, .int .i64 0, .int .i64 0, .int .i64 0, .int .i64 0, .slice none 0 0] 81)) _ _ _ at hP5
        replace hLd := hLd.ext hAl
        replace hZ := hZ.ext hAl
        clear hAl
        generalize hP5e : V1.heap.size = P5 at *
        generalize V1.alloc (.cells #[.slice none 0 0, .slice none 0 0, .int .i64 0, .int .i64 0, .int .i64 0, .int .i64 0, .int .i64 0, .slice none 0 0] 81) = V2 at *
        have hP5l := hP5.lt
        refine Dr.Any.plan_e rfl (by rfl) (fun K hK => ?_)
        go_wp2_with fail
        refine (CR.out _ g hZ hLd).mono ?_; rintro r V3 ⟨v6, u6, rfl, ⟨A3, n3, c3, B3, m3, d3, D3, q3, e3, rfl, L6⟩, ⟨Au, cu, rfl, -, -, -, -⟩, hbn⟩
        unfold ledV
        refine hK _ _ (.of hbn) ?_; clear hK K
        clear hLd
        replace hbv := ext_trans hbv hbn
        have hsV3 := hbn.size
        replace hP5 := hP5.ext hbn
        refine Dr.Any.plan_q (l := [_, _, _, _]) rfl (fun K hK => ?_)
        iterate 4 (go_big_quiet_step (fail))
        refine wpQuiet_nil (hK _ ?_); clear hK K
        have y0 : V3.cell? ⟨P5, 0, none⟩ = _ := hP5.cell (i := 0) rfl
        have y1 : V3.cell? ⟨P5, 1, none⟩ = _ := hP5.cell (i := 1) rfl
        have y2 : V3.cell? ⟨P5, 2, none⟩ = _ := hP5.cell (i := 2) rfl
        have y3 : V3.cell? ⟨P5, 3, none⟩ = _ := hP5.cell (i := 3) rfl
        have y4 : V3.cell? ⟨P5, 4, none⟩ = _ := hP5.cell (i := 4) rfl
        have y5 : V3.cell? ⟨P5, 5, none⟩ = _ := hP5.cell (i := 5) rfl
        have y6 : V3.cell? ⟨P5, 6, none⟩ = _ := hP5.cell (i := 6) rfl
        have y7 : V3.cell? ⟨P5, 7, none⟩ = _ := hP5.cell (i := 7) rfl
        have f0 := hP5.free 0
        have f1 := hP5.free 1
        have f2 := hP5.free 2
        have f3 := hP5.free 3
        have f4 := hP5.free 4
        have f5 := hP5.free 5
        have f6 := hP5.free 6
        have f7 := hP5.free 7
        refine Dr.Any.plan_e rfl (by rfl) (fun K hK => ?_)
        go_wp2_with fail
        generalize hWf : World.setCell _ _ (Value.slice D3 q3 e3) = Wf
        have hPf := hP5.put_eq [.slice A3 n3 c3, .slice B3 m3 d3, .int .i64 ldN.office, .int .i64 ldN.bank, .int .i64 ldN.begun, .int .i64 ldN.inn, .int .i64 ldN.out, .slice D3 q3 e3] hWf rfl
        have hbf : Dr.Bel [P5] V3 Wf := bel_put_eq [.slice A3 n3 c3, .slice B3 m3 d3, .int .i64 ldN.office, .int .i64 ldN.bank, .int .i64 ldN.begun, .int .i64 ldN.inn, .int .i64 ldN.out, .slice D3 q3 e3] hWf
        clear hWf y0 y1 y2 y3 y4 y5 y6 y7 f0 f1 f2 f3 f4 f5 f6 f7
        refine hK _ _ (bel_any hbf (by rw [Dr.Any.mem_from]; omega)) ?_; clear hK K
        refine Dr.Any.plan_q (l := [_, _]) rfl (fun K hK => ?_)
        iterate 2 (go_big_quiet_step (fail))
        refine wpQuiet_nil (hK _ ?_); clear hK K
        have hoff : LedOff P5 A3 n3 B3 m3 D3 q3 := ⟨fun _ h => by have := (L6.fa _ h).1; omega, fun _ h => by have := (L6.fb _ h).1; omega, fun _ h => by have := (L6.fd _ h).1; omega⟩
        refine Dr.Any.plan_end rfl ?_
        go_wp2
        go_meet
        case rel => exact ⟨P5, A3, n3, c3, B3, m3, d3, D3, q3, e3, Au, cu, rfl, rfl, rfl, by omega, hPf, L6.m.bel1 hoff hbf, hoff, ext_trans hbd (hbv.trans (hbf.old (by omega) (by simp; omega)))⟩
    · skip
      refine Dr.Any.plan_e rfl (by rfl) (fun K hK => ?_)
      go_wp2_with fail
      refine hK _ _ (.of (ext_alloc _ _)) ?_; clear hK K
      have hP5 := Blk.new V0 81 [.slice none 0 0, .slice none 0 0, .int .i64 0, .int .i64 0, .int .i64 0, .int .i64 0, .int .i64 0, .slice none 0 0]
      have hAl := ext_alloc V0 (.cells #[.slice none 0 0, .slice none 0 0, .int .i64 0, .int .i64 0, .int .i64 0, .int .i64 0, .int .i64 0, .slice none 0 0] 81)
      replace hbv := ext_trans hbv hAl
      have hsV1 := hAl.size
      have hP5g : V0.heap.size ≤ V0.heap.size := by omega
      change Blk (V0.alloc (.cells #[.slice none 0 0, .slice none 0 0, .int .i64 0, .int .i64 0, .int .i64 0, .int .i64 0, .int .i64 0, .slice none 0 0] 81)) _ _ _ at hP5
      replace hLd := hLd.ext hAl
      clear hAl
      obtain ⟨P5, hP5e⟩ : ∃ P5, V0.heap.size = P5 := ⟨_, rfl⟩
      rw [hP5e] at hP5
      generalize V0.alloc (.cells #[.slice none 0 0, .slice none 0 0, .int .i64 0, .int .i64 0, .int .i64 0, .int .i64 0, .int .i64 0, .slice none 0 0] 81) = V1 at *
      rw [hP5e]
      have hP5l := hP5.lt
      refine Dr.Any.plan_e rfl (by rfl) (fun K hK => ?_)
      go_wp2_with fail
      refine (CD.out _).mono ?_; rintro r V2 ⟨g, rfl, hZ, hbn⟩
      refine hK _ _ (.of hbn) ?_; clear hK K
      replace hLd := hLd.ext hbn
      replace hbv := ext_trans hbv hbn
      have hsV2 := hbn.size
      replace hP5 := hP5.ext hbn
      refine Dr.Any.plan_e rfl (by rfl) (fun K hK => ?_)
      go_wp2_with fail
      refine (CR.out _ g hZ hLd).mono ?_; rintro r V3 ⟨v6, u6, rfl, ⟨A3, n3, c3, B3, m3, d3, D3, q3, e3, rfl, L6⟩, ⟨Au, cu, rfl, -, -, -, -⟩, hbn⟩
      unfold ledV
      refine hK _ _ (.of hbn) ?_; clear hK K
      clear hLd
      replace hbv := ext_trans hbv hbn
      have hsV3 := hbn.size
      replace hP5 := hP5.ext hbn
      refine Dr.Any.plan_q (l := [_, _, _, _]) rfl (fun K hK => ?_)
      iterate 4 (go_big_quiet_step (fail))
      refine wpQuiet_nil (hK _ ?_); clear hK K
      have y0 : V3.cell? ⟨P5, 0, none⟩ = _ := hP5.cell (i := 0) rfl
      have y1 : V3.cell? ⟨P5, 1, none⟩ = _ := hP5.cell (i := 1) rfl
      have y2 : V3.cell? ⟨P5, 2, none⟩ = _ := hP5.cell (i := 2) rfl
      have y3 : V3.cell? ⟨P5, 3, none⟩ = _ := hP5.cell (i := 3) rfl
      have y4 : V3.cell? ⟨P5, 4, none⟩ = _ := hP5.cell (i := 4) rfl
      have y5 : V3.cell? ⟨P5, 5, none⟩ = _ := hP5.cell (i := 5) rfl
      have y6 : V3.cell? ⟨P5, 6, none⟩ = _ := hP5.cell (i := 6) rfl
      have y7 : V3.cell? ⟨P5, 7, none⟩ = _ := hP5.cell (i := 7) rfl
      have f0 := hP5.free 0
      have f1 := hP5.free 1
      have f2 := hP5.free 2
      have f3 := hP5.free 3
      have f4 := hP5.free 4
      have f5 := hP5.free 5
      have f6 := hP5.free 6
      have f7 := hP5.free 7
      refine Dr.Any.plan_e rfl (by rfl) (fun K hK => ?_)
      go_wp2_with fail
      generalize hWf : World.setCell _ _ (Value.slice D3 q3 e3) = Wf
      have hPf := hP5.put_eq [.slice A3 n3 c3, .slice B3 m3 d3, .int .i64 ldN.office, .int .i64 ldN.bank, .int .i64 ldN.begun, .int .i64 ldN.inn, .int .i64 ldN.out, .slice D3 q3 e3] hWf rfl
      have hbf : Dr.Bel [P5] V3 Wf := bel_put_eq [.slice A3 n3 c3, .slice B3 m3 d3, .int .i64 ldN.office, .int .i64 ldN.bank, .int .i64 ldN.begun, .int .i64 ldN.inn, .int .i64 ldN.out, .slice D3 q3 e3] hWf
      clear hWf y0 y1 y2 y3 y4 y5 y6 y7 f0 f1 f2 f3 f4 f5 f6 f7
      refine hK _ _ (bel_any hbf (by rw [Dr.Any.mem_from]; omega)) ?_; clear hK K
      refine Dr.Any.plan_q (l := [_, _]) rfl (fun K hK => ?_)
      iterate 2 (go_big_quiet_step (fail))
      refine wpQuiet_nil (hK _ ?_); clear hK K
      have hoff : LedOff P5 A3 n3 B3 m3 D3 q3 := ⟨fun _ h => by have := (L6.fa _ h).1; omega, fun _ h => by have := (L6.fb _ h).1; omega, fun _ h => by have := (L6.fd _ h).1; omega⟩
      refine Dr.Any.plan_end rfl ?_
      go_wp2
      go_meet
      case rel => exact ⟨P5, A3, n3, c3, B3, m3, d3, D3, q3, e3, Au, cu, rfl, rfl, rfl, by omega, hPf, L6.m.bel1 hoff hbf, hoff, ext_trans hbd (hbv.trans (hbf.old (by omega) (by simp; omega)))⟩
  case rest =>
  obtain ⟨P5, A3, n3, c3, B3, m3, d3, D3, q3, e3, Au, cu, rfl, rfl, rfl, hP5, hN, hLn, hof, hb⟩ := hcut
  generalize wc = W12 at *
  have hw11 := hbw.size
  have hoNp : ∀ g, W12.heap.size ≤ g → LedOff g A3 n3 B3 m3 D3 q3 := fun g hg => hLn.off hg
  have hb12 := Below.refl W12.heap.size W12
  replace hbw := ext_trans hbw hb
  replace hQ := HQ.out _ hb
  replace hLb := HL.out _ hb
  clear hb HQ HL CR CD
  obtain rfl : n3 = 2 := hLn.hn.symm
  obtain rfl : m3 = 1 := hLn.hm.symm
  obtain rfl : q3 = 1 := hLn.hq.symm
  change Blk W12 P5 81 [.slice A3 2 c3, .slice B3 1 d3, .int .i64 150, .int .i64 400, .int .i64 600, .int .i64 30, .int .i64 20, .slice D3 1 e3] at hN
  obtain rfl : n2 = 2 := hLb.hn.symm
  obtain rfl : m2 = 0 := hLb.hm.symm
  obtain rfl : q2 = 0 := hLb.hq.symm
  change Blk W12 Q 81 [.slice A2 2 c2, .slice B2 0 d2, .int .i64 500, .int .i64 0, .int .i64 600, .int .i64 0, .int .i64 0, .slice D2 0 e2] at hQ
  have x0 : W12.cell? ⟨P5, 0, none⟩ = _ := hN.cell (i := 0) rfl
  have x1 : W12.cell? ⟨P5, 1, none⟩ = _ := hN.cell (i := 1) rfl
  have x2 : W12.cell? ⟨P5, 2, none⟩ = _ := hN.cell (i := 2) rfl
  have x3 : W12.cell? ⟨P5, 3, none⟩ = _ := hN.cell (i := 3) rfl
  have x4 : W12.cell? ⟨P5, 4, none⟩ = _ := hN.cell (i := 4) rfl
  have x5 : W12.cell? ⟨P5, 5, none⟩ = _ := hN.cell (i := 5) rfl
  have x6 : W12.cell? ⟨P5, 6, none⟩ = _ := hN.cell (i := 6) rfl
  have x7 : W12.cell? ⟨P5, 7, none⟩ = _ := hN.cell (i := 7) rfl
  have CT := TotalP_any ldN A3 2 c3 B3 1 d3 D3 1 e3 W12 hLn
  rw [nm_t1, nm_t2] at CT
  have CC := Lib.hid (show Calls Try.prog 42 #[.agg #[.slice A3 2 c3, .slice B3 1 d3, .int .i64 150, .int .i64 400, .int .i64 600, .int .i64 30, .int .i64 20, .slice D3 1 e3]] W12 _ from CT)
  clear CT
  go_wp2_with fail
  refine CC.out.mono ?_; rintro r W13 ⟨rfl, hb⟩
  replace hbw := ext_trans hbw hb
  replace hb12 := ext_trans hb12 hb
  replace hN := hN.ext hb
  replace hLn := hLn.ext hb
  replace hQ := hQ.ext hb
  replace hLb := hLb.ext hb
  clear hb CC x0 x1 x2 x3 x4 x5 x6 x7
  go_upto_region 12 with fail
  have x0 : W13.cell? ⟨P5, 0, none⟩ = _ := hN.cell (i := 0) rfl
  have x1 : W13.cell? ⟨P5, 1, none⟩ = _ := hN.cell (i := 1) rfl
  have x2 : W13.cell? ⟨P5, 2, none⟩ = _ := hN.cell (i := 2) rfl
  have x3 : W13.cell? ⟨P5, 3, none⟩ = _ := hN.cell (i := 3) rfl
  have x4 : W13.cell? ⟨P5, 4, none⟩ = _ := hN.cell (i := 4) rfl
  have x5 : W13.cell? ⟨P5, 5, none⟩ = _ := hN.cell (i := 5) rfl
  have x6 : W13.cell? ⟨P5, 6, none⟩ = _ := hN.cell (i := 6) rfl
  have x7 : W13.cell? ⟨P5, 7, none⟩ = _ := hN.cell (i := 7) rfl
  have CT := Missing_any ldN A3 2 c3 B3 1 d3 D3 1 e3 0 W13 hLn
  rw [nm_mis] at CT
  have CC := Lib.hid (show Calls Try.prog 48 #[.agg #[.slice A3 2 c3, .slice B3 1 d3, .int .i64 150, .int .i64 400, .int .i64 600, .int .i64 30, .int .i64 20, .slice D3 1 e3], .int .i64 0] W13 _ from CT)
  clear CT
  go_wp2_with fail
  refine CC.out.mono ?_; rintro r W14 ⟨rfl, hb⟩
  replace hbw := ext_trans hbw hb
  replace hb12 := ext_trans hb12 hb
  replace hN := hN.ext hb
  replace hLn := hLn.ext hb
  replace hQ := hQ.ext hb
  replace hLb := hLb.ext hb
  clear hb CC x0 x1 x2 x3 x4 x5 x6 x7
  go_upto_region 13 with fail
  have x5 : W14.cell? ⟨P5, 5, none⟩ = _ := hN.cell (i := 5) rfl
  have x6 : W14.cell? ⟨P5, 6, none⟩ = _ := hN.cell (i := 6) rfl
  go_upto_region 15 with fail
  clear x5 x6
  have x0 : W14.cell? ⟨P5, 0, none⟩ = _ := hN.cell (i := 0) rfl
  have x1 : W14.cell? ⟨P5, 1, none⟩ = _ := hN.cell (i := 1) rfl
  have x2 : W14.cell? ⟨P5, 2, none⟩ = _ := hN.cell (i := 2) rfl
  have x3 : W14.cell? ⟨P5, 3, none⟩ = _ := hN.cell (i := 3) rfl
  have x4 : W14.cell? ⟨P5, 4, none⟩ = _ := hN.cell (i := 4) rfl
  have x5 : W14.cell? ⟨P5, 5, none⟩ = _ := hN.cell (i := 5) rfl
  have x6 : W14.cell? ⟨P5, 6, none⟩ = _ := hN.cell (i := 6) rfl
  have x7 : W14.cell? ⟨P5, 7, none⟩ = _ := hN.cell (i := 7) rfl
  have CT := Do_any ldN ⟨9, 0, 0, 0, 0, 0⟩ A3 2 c3 B3 1 d3 D3 1 e3 W14 hLn
  rw [nm_d1] at CT
  have CC := Lib.hid (show Calls Try.prog 39 #[.agg #[.slice A3 2 c3, .slice B3 1 d3, .int .i64 150, .int .i64 400, .int .i64 600, .int .i64 30, .int .i64 20, .slice D3 1 e3], .agg #[.int .u8 9, .int .i64 0, .int .i64 0, .int .i64 0, .int .i64 0, .int .i64 0]] W14 _ from CT)
  clear CT
  go_wp2_with fail
  refine CC.out.mono ?_; rintro r W15 ⟨vz, rfl, ⟨Az, nz, cz, Bz, mz, dz, Dz, qz, ez, rfl, -⟩, hb⟩
  replace hbw := ext_trans hbw hb
  replace hb12 := ext_trans hb12 hb
  replace hN := hN.ext hb
  replace hLn := hLn.ext hb
  replace hQ := hQ.ext hb
  replace hLb := hLb.ext hb
  clear hb CC x0 x1 x2 x3 x4 x5 x6 x7
  unfold ledV
  have hb := ext_alloc W15 (.cells #[.slice Az nz cz, .slice Bz mz dz, .int .i64 Led.zero.office, .int .i64 Led.zero.bank, .int .i64 Led.zero.begun, .int .i64 Led.zero.inn, .int .i64 Led.zero.out, .slice Dz qz ez] 81)
  replace hbw := ext_trans hbw hb
  replace hb12 := ext_trans hb12 hb
  replace hN := hN.ext hb
  replace hLn := hLn.ext hb
  replace hQ := hQ.ext hb
  replace hLb := hLb.ext hb
  go_upto_region 16 with fail
  change Below _ _ (W15.alloc (.cells #[.slice Az nz cz, .slice Bz mz dz, .int .i64 Led.zero.office, .int .i64 Led.zero.bank, .int .i64 Led.zero.begun, .int .i64 Led.zero.inn, .int .i64 Led.zero.out, .slice Dz qz ez] 81)) at hb
  clear hb
  generalize W15.alloc (.cells #[.slice Az nz cz, .slice Bz mz dz, .int .i64 Led.zero.office, .int .i64 Led.zero.bank, .int .i64 Led.zero.begun, .int .i64 Led.zero.inn, .int .i64 Led.zero.out, .slice Dz qz ez] 81) = W16 at *
  have x0 : W16.cell? ⟨P5, 0, none⟩ = _ := hN.cell (i := 0) rfl
  have x1 : W16.cell? ⟨P5, 1, none⟩ = _ := hN.cell (i := 1) rfl
  have x2 : W16.cell? ⟨P5, 2, none⟩ = _ := hN.cell (i := 2) rfl
  have x3 : W16.cell? ⟨P5, 3, none⟩ = _ := hN.cell (i := 3) rfl
  have x4 : W16.cell? ⟨P5, 4, none⟩ = _ := hN.cell (i := 4) rfl
  have x5 : W16.cell? ⟨P5, 5, none⟩ = _ := hN.cell (i := 5) rfl
  have x6 : W16.cell? ⟨P5, 6, none⟩ = _ := hN.cell (i := 6) rfl
  have x7 : W16.cell? ⟨P5, 7, none⟩ = _ := hN.cell (i := 7) rfl
  have CT := Do_any ldN ⟨6, 0, 0, 0, 0, 0⟩ A3 2 c3 B3 1 d3 D3 1 e3 W16 hLn
  rw [nm_d2] at CT
  have CC := Lib.hid (show Calls Try.prog 39 #[.agg #[.slice A3 2 c3, .slice B3 1 d3, .int .i64 150, .int .i64 400, .int .i64 600, .int .i64 30, .int .i64 20, .slice D3 1 e3], .agg #[.int .u8 6, .int .i64 0, .int .i64 0, .int .i64 0, .int .i64 0, .int .i64 0]] W16 _ from CT)
  clear CT
  go_wp2_with fail
  refine CC.out.mono ?_; rintro r W17 ⟨vz, rfl, ⟨Az, nz, cz, Bz, mz, dz, Dz, qz, ez, rfl, -⟩, hb⟩
  replace hbw := ext_trans hbw hb
  replace hb12 := ext_trans hb12 hb
  replace hN := hN.ext hb
  replace hLn := hLn.ext hb
  replace hQ := hQ.ext hb
  replace hLb := hLb.ext hb
  clear hb CC x0 x1 x2 x3 x4 x5 x6 x7
  unfold ledV
  have hb := ext_alloc W17 (.cells #[.slice Az nz cz, .slice Bz mz dz, .int .i64 Led.zero.office, .int .i64 Led.zero.bank, .int .i64 Led.zero.begun, .int .i64 Led.zero.inn, .int .i64 Led.zero.out, .slice Dz qz ez] 81)
  replace hbw := ext_trans hbw hb
  replace hb12 := ext_trans hb12 hb
  replace hN := hN.ext hb
  replace hLn := hLn.ext hb
  replace hQ := hQ.ext hb
  replace hLb := hLb.ext hb
  go_upto_region 17 with fail
  change Below _ _ (W17.alloc (.cells #[.slice Az nz cz, .slice Bz mz dz, .int .i64 Led.zero.office, .int .i64 Led.zero.bank, .int .i64 Led.zero.begun, .int .i64 Led.zero.inn, .int .i64 Led.zero.out, .slice Dz qz ez] 81)) at hb
  clear hb
  generalize W17.alloc (.cells #[.slice Az nz cz, .slice Bz mz dz, .int .i64 Led.zero.office, .int .i64 Led.zero.bank, .int .i64 Led.zero.begun, .int .i64 Led.zero.inn, .int .i64 Led.zero.out, .slice Dz qz ez] 81) = W18 at *
  have x0 : W18.cell? ⟨P5, 0, none⟩ = _ := hN.cell (i := 0) rfl
  have x1 : W18.cell? ⟨P5, 1, none⟩ = _ := hN.cell (i := 1) rfl
  have x2 : W18.cell? ⟨P5, 2, none⟩ = _ := hN.cell (i := 2) rfl
  have x3 : W18.cell? ⟨P5, 3, none⟩ = _ := hN.cell (i := 3) rfl
  have x4 : W18.cell? ⟨P5, 4, none⟩ = _ := hN.cell (i := 4) rfl
  have x5 : W18.cell? ⟨P5, 5, none⟩ = _ := hN.cell (i := 5) rfl
  have x6 : W18.cell? ⟨P5, 6, none⟩ = _ := hN.cell (i := 6) rfl
  have x7 : W18.cell? ⟨P5, 7, none⟩ = _ := hN.cell (i := 7) rfl
  have CT := Do_any ldN ⟨4, 0, 0, 9, 1, 0⟩ A3 2 c3 B3 1 d3 D3 1 e3 W18 hLn
  rw [nm_d3] at CT
  have CC := Lib.hid (show Calls Try.prog 39 #[.agg #[.slice A3 2 c3, .slice B3 1 d3, .int .i64 150, .int .i64 400, .int .i64 600, .int .i64 30, .int .i64 20, .slice D3 1 e3], .agg #[.int .u8 4, .int .i64 0, .int .i64 0, .int .i64 9, .int .i64 1, .int .i64 0]] W18 _ from CT)
  clear CT
  go_wp2_with fail
  refine CC.out.mono ?_; rintro r W19 ⟨vz, rfl, ⟨Az, nz, cz, Bz, mz, dz, Dz, qz, ez, rfl, -⟩, hb⟩
  replace hbw := ext_trans hbw hb
  replace hb12 := ext_trans hb12 hb
  replace hN := hN.ext hb
  replace hLn := hLn.ext hb
  replace hQ := hQ.ext hb
  replace hLb := hLb.ext hb
  clear hb CC x0 x1 x2 x3 x4 x5 x6 x7
  unfold ledV
  have hb := ext_alloc W19 (.cells #[.slice Az nz cz, .slice Bz mz dz, .int .i64 Led.zero.office, .int .i64 Led.zero.bank, .int .i64 Led.zero.begun, .int .i64 Led.zero.inn, .int .i64 Led.zero.out, .slice Dz qz ez] 81)
  replace hbw := ext_trans hbw hb
  replace hb12 := ext_trans hb12 hb
  replace hN := hN.ext hb
  replace hLn := hLn.ext hb
  replace hQ := hQ.ext hb
  replace hLb := hLb.ext hb
  go_upto_region 18 with fail
  change Below _ _ (W19.alloc (.cells #[.slice Az nz cz, .slice Bz mz dz, .int .i64 Led.zero.office, .int .i64 Led.zero.bank, .int .i64 Led.zero.begun, .int .i64 Led.zero.inn, .int .i64 Led.zero.out, .slice Dz qz ez] 81)) at hb
  clear hb
  generalize W19.alloc (.cells #[.slice Az nz cz, .slice Bz mz dz, .int .i64 Led.zero.office, .int .i64 Led.zero.bank, .int .i64 Led.zero.begun, .int .i64 Led.zero.inn, .int .i64 Led.zero.out, .slice Dz qz ez] 81) = W20 at *
  have x0 : W20.cell? ⟨P5, 0, none⟩ = _ := hN.cell (i := 0) rfl
  have x1 : W20.cell? ⟨P5, 1, none⟩ = _ := hN.cell (i := 1) rfl
  have x2 : W20.cell? ⟨P5, 2, none⟩ = _ := hN.cell (i := 2) rfl
  have x3 : W20.cell? ⟨P5, 3, none⟩ = _ := hN.cell (i := 3) rfl
  have x4 : W20.cell? ⟨P5, 4, none⟩ = _ := hN.cell (i := 4) rfl
  have x5 : W20.cell? ⟨P5, 5, none⟩ = _ := hN.cell (i := 5) rfl
  have x6 : W20.cell? ⟨P5, 6, none⟩ = _ := hN.cell (i := 6) rfl
  have x7 : W20.cell? ⟨P5, 7, none⟩ = _ := hN.cell (i := 7) rfl
  have CT := Do_any ldN ⟨8, 0, 0, 0, 401, 0⟩ A3 2 c3 B3 1 d3 D3 1 e3 W20 hLn
  rw [nm_d4] at CT
  have CC := Lib.hid (show Calls Try.prog 39 #[.agg #[.slice A3 2 c3, .slice B3 1 d3, .int .i64 150, .int .i64 400, .int .i64 600, .int .i64 30, .int .i64 20, .slice D3 1 e3], .agg #[.int .u8 8, .int .i64 0, .int .i64 0, .int .i64 0, .int .i64 401, .int .i64 0]] W20 _ from CT)
  clear CT
  go_wp2_with fail
  refine CC.out.mono ?_; rintro r W21 ⟨vz, rfl, ⟨Az, nz, cz, Bz, mz, dz, Dz, qz, ez, rfl, -⟩, hb⟩
  replace hbw := ext_trans hbw hb
  replace hb12 := ext_trans hb12 hb
  replace hN := hN.ext hb
  replace hLn := hLn.ext hb
  replace hQ := hQ.ext hb
  replace hLb := hLb.ext hb
  clear hb CC x0 x1 x2 x3 x4 x5 x6 x7
  unfold ledV
  have hb := ext_alloc W21 (.cells #[.slice Az nz cz, .slice Bz mz dz, .int .i64 Led.zero.office, .int .i64 Led.zero.bank, .int .i64 Led.zero.begun, .int .i64 Led.zero.inn, .int .i64 Led.zero.out, .slice Dz qz ez] 81)
  replace hbw := ext_trans hbw hb
  replace hb12 := ext_trans hb12 hb
  replace hN := hN.ext hb
  replace hLn := hLn.ext hb
  replace hQ := hQ.ext hb
  replace hLb := hLb.ext hb
  go_upto_region 19 with fail
  change Below _ _ (W21.alloc (.cells #[.slice Az nz cz, .slice Bz mz dz, .int .i64 Led.zero.office, .int .i64 Led.zero.bank, .int .i64 Led.zero.begun, .int .i64 Led.zero.inn, .int .i64 Led.zero.out, .slice Dz qz ez] 81)) at hb
  clear hb
  generalize W21.alloc (.cells #[.slice Az nz cz, .slice Bz mz dz, .int .i64 Led.zero.office, .int .i64 Led.zero.bank, .int .i64 Led.zero.begun, .int .i64 Led.zero.inn, .int .i64 Led.zero.out, .slice Dz qz ez] 81) = W22 at *
  have x0 : W22.cell? ⟨Q, 0, none⟩ = _ := hQ.cell (i := 0) rfl
  have x1 : W22.cell? ⟨Q, 1, none⟩ = _ := hQ.cell (i := 1) rfl
  have x2 : W22.cell? ⟨Q, 2, none⟩ = _ := hQ.cell (i := 2) rfl
  have x3 : W22.cell? ⟨Q, 3, none⟩ = _ := hQ.cell (i := 3) rfl
  have x4 : W22.cell? ⟨Q, 4, none⟩ = _ := hQ.cell (i := 4) rfl
  have x5 : W22.cell? ⟨Q, 5, none⟩ = _ := hQ.cell (i := 5) rfl
  have x6 : W22.cell? ⟨Q, 6, none⟩ = _ := hQ.cell (i := 6) rfl
  have x7 : W22.cell? ⟨Q, 7, none⟩ = _ := hQ.cell (i := 7) rfl
  have CT := Do_any lb ⟨2, 0, 0, 0, 1000000000000, 0⟩ A2 2 c2 B2 0 d2 D2 0 e2 W22 hLb
  rw [nm_d5] at CT
  have CC := Lib.hid (show Calls Try.prog 39 #[.agg #[.slice A2 2 c2, .slice B2 0 d2, .int .i64 500, .int .i64 0, .int .i64 600, .int .i64 0, .int .i64 0, .slice D2 0 e2], .agg #[.int .u8 2, .int .i64 0, .int .i64 0, .int .i64 0, .int .i64 1000000000000, .int .i64 0]] W22 _ from CT)
  clear CT
  go_wp2_with fail
  refine CC.out.mono ?_; rintro r W23 ⟨vz, rfl, ⟨Az, nz, cz, Bz, mz, dz, Dz, qz, ez, rfl, -⟩, hb⟩
  replace hbw := ext_trans hbw hb
  replace hb12 := ext_trans hb12 hb
  replace hN := hN.ext hb
  replace hLn := hLn.ext hb
  replace hQ := hQ.ext hb
  replace hLb := hLb.ext hb
  clear hb CC x0 x1 x2 x3 x4 x5 x6 x7
  unfold ledV
  have hb := ext_alloc W23 (.cells #[.slice Az nz cz, .slice Bz mz dz, .int .i64 Led.zero.office, .int .i64 Led.zero.bank, .int .i64 Led.zero.begun, .int .i64 Led.zero.inn, .int .i64 Led.zero.out, .slice Dz qz ez] 81)
  replace hbw := ext_trans hbw hb
  replace hb12 := ext_trans hb12 hb
  replace hN := hN.ext hb
  replace hLn := hLn.ext hb
  replace hQ := hQ.ext hb
  replace hLb := hLb.ext hb
  go_upto_region 20 with fail
  change Below _ _ (W23.alloc (.cells #[.slice Az nz cz, .slice Bz mz dz, .int .i64 Led.zero.office, .int .i64 Led.zero.bank, .int .i64 Led.zero.begun, .int .i64 Led.zero.inn, .int .i64 Led.zero.out, .slice Dz qz ez] 81)) at hb
  clear hb
  generalize W23.alloc (.cells #[.slice Az nz cz, .slice Bz mz dz, .int .i64 Led.zero.office, .int .i64 Led.zero.bank, .int .i64 Led.zero.begun, .int .i64 Led.zero.inn, .int .i64 Led.zero.out, .slice Dz qz ez] 81) = W24 at *
  have x0 : W24.cell? ⟨Q, 0, none⟩ = _ := hQ.cell (i := 0) rfl
  have x1 : W24.cell? ⟨Q, 1, none⟩ = _ := hQ.cell (i := 1) rfl
  have x2 : W24.cell? ⟨Q, 2, none⟩ = _ := hQ.cell (i := 2) rfl
  have x3 : W24.cell? ⟨Q, 3, none⟩ = _ := hQ.cell (i := 3) rfl
  have x4 : W24.cell? ⟨Q, 4, none⟩ = _ := hQ.cell (i := 4) rfl
  have x5 : W24.cell? ⟨Q, 5, none⟩ = _ := hQ.cell (i := 5) rfl
  have x6 : W24.cell? ⟨Q, 6, none⟩ = _ := hQ.cell (i := 6) rfl
  have x7 : W24.cell? ⟨Q, 7, none⟩ = _ := hQ.cell (i := 7) rfl
  have CT := Do_any lb ⟨1, 2, 0, 0, 1, 0⟩ A2 2 c2 B2 0 d2 D2 0 e2 W24 hLb
  rw [nm_d6] at CT
  have CC := Lib.hid (show Calls Try.prog 39 #[.agg #[.slice A2 2 c2, .slice B2 0 d2, .int .i64 500, .int .i64 0, .int .i64 600, .int .i64 0, .int .i64 0, .slice D2 0 e2], .agg #[.int .u8 1, .int .i64 2, .int .i64 0, .int .i64 0, .int .i64 1, .int .i64 0]] W24 _ from CT)
  clear CT
  go_wp2_with fail
  refine CC.out.mono ?_; rintro r W25 ⟨vz, rfl, ⟨Az, nz, cz, Bz, mz, dz, Dz, qz, ez, rfl, -⟩, hb⟩
  replace hbw := ext_trans hbw hb
  replace hb12 := ext_trans hb12 hb
  replace hN := hN.ext hb
  replace hLn := hLn.ext hb
  replace hQ := hQ.ext hb
  replace hLb := hLb.ext hb
  clear hb CC x0 x1 x2 x3 x4 x5 x6 x7
  unfold ledV
  have hb := ext_alloc W25 (.cells #[.slice Az nz cz, .slice Bz mz dz, .int .i64 Led.zero.office, .int .i64 Led.zero.bank, .int .i64 Led.zero.begun, .int .i64 Led.zero.inn, .int .i64 Led.zero.out, .slice Dz qz ez] 81)
  replace hbw := ext_trans hbw hb
  replace hb12 := ext_trans hb12 hb
  replace hN := hN.ext hb
  replace hLn := hLn.ext hb
  replace hQ := hQ.ext hb
  replace hLb := hLb.ext hb
  go_upto_region 21 with fail
  change Below _ _ (W25.alloc (.cells #[.slice Az nz cz, .slice Bz mz dz, .int .i64 Led.zero.office, .int .i64 Led.zero.bank, .int .i64 Led.zero.begun, .int .i64 Led.zero.inn, .int .i64 Led.zero.out, .slice Dz qz ez] 81)) at hb
  clear hb
  generalize W25.alloc (.cells #[.slice Az nz cz, .slice Bz mz dz, .int .i64 Led.zero.office, .int .i64 Led.zero.bank, .int .i64 Led.zero.begun, .int .i64 Led.zero.inn, .int .i64 Led.zero.out, .slice Dz qz ez] 81) = W26 at *
  have CC := Lib.hid (week_blk W26)
  go_wp2_with fail
  refine CC.out.mono ?_; rintro r V1 ⟨g1, g2, rfl, hg1, hg2, hgl, hgg, hb⟩
  have hN1 := hN.lt
  have hwg := hbw.size
  have hng := hb12.size
  clear hb12
  replace hbw := ext_trans hbw hb
  replace hN := hN.ext hb
  replace hLn := hLn.ext hb
  replace hQ := hQ.ext hb
  replace hLb := hLb.ext hb
  clear hb CC
  unfold wkV
  simp only [weekW]
  change Blk V1 g1 58 (weekX.ctys.flatMap Cty.enc) at hg1
  have hg2' : Blk V1 g2 125 [.int .i64 1, .int .i64 500, .int .i64 300, .int .i64 0, .int .i64 800, .int .i64 0] := hg2
  have hg2l := hg2.lt
  clear hg2
  have hb := ext_alloc V1 (.cells #[.slice (some ⟨g1, 0, none⟩) 2 2, .int .i64 90, .slice (some ⟨g2, 0, none⟩) 2 2] 36)
  have hK := Blk.new V1 36 [.slice (some ⟨g1, 0, none⟩) 2 2, .int .i64 90, .slice (some ⟨g2, 0, none⟩) 2 2]
  replace hg1 := hg1.ext hb
  replace hg2' := hg2'.ext hb
  replace hbw := ext_trans hbw hb
  replace hN := hN.ext hb
  replace hLn := hLn.ext hb
  replace hQ := hQ.ext hb
  replace hLb := hLb.ext hb
  go_upto_region 22 with fail
  change Blk (V1.alloc (.cells #[.slice (some ⟨g1, 0, none⟩) 2 2, .int .i64 90, .slice (some ⟨g2, 0, none⟩) 2 2] 36)) _ _ _ at hK
  clear hb
  generalize V1.heap.size = K at *
  generalize V1.alloc (.cells #[.slice (some ⟨g1, 0, none⟩) 2 2, .int .i64 90, .slice (some ⟨g2, 0, none⟩) 2 2] 36) = V2 at *
  have hoN : LedOff g2 A3 2 B3 1 D3 1 := hoNp g2 (by omega)
  clear hQ hLb
  have x2 : V2.cell? ⟨K, 2, none⟩ = _ := hK.cell (i := 2) rfl
  have y4 : V2.cell? ⟨g2, 4, none⟩ = _ := hg2'.cell (i := 4) rfl
  have fy := hg2'.free 4
  have hbf := Dr.Bel.store (M := [g2]) (w := V2) (p := ⟨g2, 4, none⟩) (by simp) (.int .i64 1000)
  have hg2n := hg2'.set 4 (.int .i64 1000)
  replace hg1 := hbf.blk hg1 (by simp; omega)
  replace hK := hbf.blk hK (by simp; omega)
  replace hN := hbf.blk hN (by simp; omega)
  replace hLn := hLn.bel1 hoN hbf
  replace hbw := hbw.trans (hbf.old (n := w.heap.size) (by have := hbw.size; omega) (by simp; omega))
  clear hbf hg2'
  go_upto_region 23 with fail
  clear x2 y4 fy
  generalize V2.setCell ⟨g2, 4, none⟩ (.int .i64 1000) = V3 at *
  have hg2' : Blk V3 g2 125 (weekX.ctrs.flatMap Ctr.enc) := hg2n
  clear hg2n
  have x0 : V3.cell? ⟨K, 0, none⟩ = _ := hK.cell (i := 0) rfl
  have x1 : V3.cell? ⟨K, 1, none⟩ = _ := hK.cell (i := 1) rfl
  have x2 : V3.cell? ⟨K, 2, none⟩ = _ := hK.cell (i := 2) rfl
  have CT := settle_ok weekX (some ⟨g1, 0, none⟩) (some ⟨g2, 0, none⟩) 2 2 2 2 V3 rfl rfl (blk_cells cty_len hg1) (blk_cells ctr_len hg2') nm_xok
  rw [nm_xp, nm_xs, nm_xe, nm_xr] at CT
  have CC := Lib.hid (show Calls Try.prog 17 #[.agg #[.slice (some ⟨g1, 0, none⟩) 2 2, .int .i64 90, .slice (some ⟨g2, 0, none⟩) 2 2]] V3 _ from CT)
  have hg3 := hg2'.lt
  clear CT
  go_wp2_with fail
  refine CC.out.mono ?_; rintro r V4 ⟨v1, v2, v3, v4, v5, rfl, ⟨G1, z1, rfl, -, -, -, -⟩, ⟨G2, z2, rfl, -, -, -, -⟩, ⟨G3, z3, rfl, -, -, yp, fp⟩, ⟨G4, z4, rfl, -, -, ys, fs⟩, ⟨G5, z5, rfl, -, -, ye, fe⟩, hb⟩
  have hb4s := hb.size
  have hN3 := hN.lt
  replace hbw := ext_trans hbw hb
  replace hN := hN.ext hb
  replace hLn := hLn.ext hb
  replace hg1 := hg1.ext hb
  replace hK := hK.ext hb
  replace hg2' := hg2'.ext hb
  clear hb CC x0 x1 x2
  simp only [List.length_cons, List.length_nil, Nat.zero_add, Nat.reduceAdd]
  generalize weekX.settle.gross.length = j1
  generalize weekX.settle.taxes.length = j2
  generalize weekX.settle.premium = j4
  generalize weekX.settle.lacks = j5
  have hb4s : V3.heap.size ≤ V4.heap.size := hb4s
  have hgp : ∀ k, G3.map (·.block) = some k → V3.heap.size ≤ k := fun k hk => (fp k hk).1
  have hgs : ∀ k, G4.map (·.block) = some k → V3.heap.size ≤ k := fun k hk => (fs k hk).1
  have hge : ∀ k, G5.map (·.block) = some k → V3.heap.size ≤ k := fun k hk => (fe k hk).1
  have hb := ext_alloc V4 (.cells #[.slice G1 j1 z1, .slice G2 j2 z2, .int .i64 j4, .int .i64 j5, .slice G3 2 z3, .slice G4 2 z4, .slice G5 2 z5, .int .i64 0] 29)
  have hY := Blk.new V4 29 [.slice G1 j1 z1, .slice G2 j2 z2, .int .i64 j4, .int .i64 j5, .slice G3 2 z3, .slice G4 2 z4, .slice G5 2 z5, .int .i64 0]
  replace hbw := ext_trans hbw hb
  replace hN := hN.ext hb
  replace hLn := hLn.ext hb
  replace hg1 := hg1.ext hb
  replace hK := hK.ext hb
  replace hg2' := hg2'.ext hb
  replace yp := yp.ext hb
  replace ys := ys.ext hb
  replace ye := ye.ext hb
  go_upto_region 24 with fail
  change Blk (V4.alloc (.cells #[.slice G1 j1 z1, .slice G2 j2 z2, .int .i64 j4, .int .i64 j5, .slice G3 2 z3, .slice G4 2 z4, .slice G5 2 z5, .int .i64 0] 29)) _ _ _ at hY
  clear hb
  have hYg := hg2'.lt
  have hYk : g2 < V4.heap.size := Nat.lt_of_lt_of_le hg3 hb4s
  generalize V4.heap.size = Y at *
  generalize V4.alloc (.cells #[.slice G1 j1 z1, .slice G2 j2 z2, .int .i64 j4, .int .i64 j5, .slice G3 2 z3, .slice G4 2 z4, .slice G5 2 z5, .int .i64 0] 29) = V5 at *
  have x2 : V5.cell? ⟨K, 2, none⟩ = _ := hK.cell (i := 2) rfl
  have y2 : V5.cell? ⟨g2, 2, none⟩ = _ := hg2'.cell (i := 2) rfl
  have fy := hg2'.free 2
  have hbf := Dr.Bel.store (M := [g2]) (w := V5) (p := ⟨g2, 2, none⟩) (by simp) (.int .i64 1001)
  have hg2n := hg2'.set 2 (.int .i64 1001)
  replace hg1 := hbf.blk hg1 (by simp; omega)
  replace hK := hbf.blk hK (by simp; omega)
  replace hN := hbf.blk hN (by simp; omega)
  replace hY := hbf.blk hY (by simp; omega)
  replace hLn := hLn.bel1 hoN hbf
  replace yp := cells_bel yp hbf (fun k hk hm => by have := (fp k hk).1; simp at hm; omega)
  replace ys := cells_bel ys hbf (fun k hk hm => by have := (fs k hk).1; simp at hm; omega)
  replace ye := cells_bel ye hbf (fun k hk hm => by have := (fe k hk).1; simp at hm; omega)
  replace hbw := hbw.trans (hbf.old (n := w.heap.size) (by have := hbw.size; omega) (by simp; omega))
  clear hbf hg2'
  go_upto_region 25 with fail
  clear x2 y2 fy
  generalize V5.setCell ⟨g2, 2, none⟩ (.int .i64 1001) = V6 at *
  have hg2' : Blk V6 g2 125 (weekY.ctrs.flatMap Ctr.enc) := hg2n
  clear hg2n fp fs fe
  have x0 : V6.cell? ⟨K, 0, none⟩ = _ := hK.cell (i := 0) rfl
  have x1 : V6.cell? ⟨K, 1, none⟩ = _ := hK.cell (i := 1) rfl
  have x2 : V6.cell? ⟨K, 2, none⟩ = _ := hK.cell (i := 2) rfl
  have CT := settle_any weekY (some ⟨g1, 0, none⟩) (some ⟨g2, 0, none⟩) 2 2 2 2 V6 rfl rfl (by omega) (by omega) (blk_cells cty_len hg1) (blk_cells ctr_len hg2')
  rw [nm_y2] at CT
  have CC := Lib.hid (show Calls Try.prog 17 #[.agg #[.slice (some ⟨g1, 0, none⟩) 2 2, .int .i64 90, .slice (some ⟨g2, 0, none⟩) 2 2]] V6 _ from CT)
  clear CT
  go_wp2_with fail
  refine CC.out.mono ?_; rintro r V7 ⟨vp, rfl, ⟨⟨H1, u1, H2, u2, H3, u3, H4, u4, H5, u5, rfl, -, -, -, -, -⟩⟩, hb⟩
  replace hbw := ext_trans hbw hb
  replace hN := hN.ext hb
  replace hLn := hLn.ext hb
  replace hg1 := hg1.ext hb
  replace hK := hK.ext hb
  replace hg2' := hg2'.ext hb
  replace yp := yp.ext hb
  replace ys := ys.ext hb
  replace ye := ye.ext hb
  replace hY := hY.ext hb
  clear hb CC x0 x1 x2
  unfold payV
  generalize (settleR weekY).1.gross.length = k1
  generalize (settleR weekY).1.taxes.length = k2
  generalize (settleR weekY).1.premium = k4
  generalize (settleR weekY).1.lacks = k5
  generalize (settleR weekY).1.paid.length = i3
  generalize (settleR weekY).1.short.length = i4
  generalize (settleR weekY).1.extra.length = i5
  generalize (settleR weekY).1.rest = i8
  clear hg1 hg2' hK
  have hb := ext_alloc V7 (.cells #[.slice H1 k1 u1, .slice H2 k2 u2, .int .i64 k4, .int .i64 k5, .slice H3 i3 u3, .slice H4 i4 u4, .slice H5 i5 u5, .int .i64 i8] 29)
  replace hbw := ext_trans hbw hb
  replace hN := hN.ext hb
  replace hLn := hLn.ext hb
  replace yp := yp.ext hb
  replace ys := ys.ext hb
  replace ye := ye.ext hb
  replace hY := hY.ext hb
  go_upto_region 26 with fail
  change Below _ _ (V7.alloc (.cells #[.slice H1 k1 u1, .slice H2 k2 u2, .int .i64 k4, .int .i64 k5, .slice H3 i3 u3, .slice H4 i4 u4, .slice H5 i5 u5, .int .i64 i8] 29)) at hb
  clear hb
  generalize V7.alloc (.cells #[.slice H1 k1 u1, .slice H2 k2 u2, .int .i64 k4, .int .i64 k5, .slice H3 i3 u3, .slice H4 i4 u4, .slice H5 i5 u5, .int .i64 i8] 29) = V8 at *
  have hoP : LedOff P5 A3 2 B3 1 D3 1 := hof
  have x6 : V8.cell? ⟨P5, 6, none⟩ = _ := hN.cell (i := 6) rfl
  have f6 := hN.free 6
  have hbf := Dr.Bel.store (M := [P5]) (w := V8) (p := ⟨P5, 6, none⟩) (by simp) (.int .i64 21)
  have hNn := hN.set 6 (.int .i64 21)
  have hLo := hLn.bel1 hoP hbf
  replace hY := hbf.blk hY (by simp; omega)
  replace yp := cells_bel yp hbf (fun k hk hm => by have := hgp k hk; simp at hm; omega)
  replace ys := cells_bel ys hbf (fun k hk hm => by have := hgs k hk; simp at hm; omega)
  replace ye := cells_bel ye hbf (fun k hk hm => by have := hge k hk; simp at hm; omega)
  replace hbw := hbw.trans (hbf.old (n := w.heap.size) (by have := hbw.size; omega) (by simp; omega))
  have hLo2 : LedM (V8.setCell ⟨P5, 6, none⟩ (.int .i64 21)) ldO A3 2 B3 1 D3 1 := ⟨rfl, rfl, rfl, hLo.n9, hLo.m9, hLo.q9, hLo.a, hLo.b, hLo.d⟩
  clear hLn hLo hbf hN
  go_upto_region 27 with fail
  clear x6 f6
  generalize V8.setCell ⟨P5, 6, none⟩ (.int .i64 21) = V9 at *
  have hN : Blk V9 P5 81 [.slice A3 2 c3, .slice B3 1 d3, .int .i64 150, .int .i64 400, .int .i64 600, .int .i64 30, .int .i64 21, .slice D3 1 e3] := hNn
  clear hNn
  have y4 : V9.cell? ⟨Y, 4, none⟩ = _ := hY.cell (i := 4) rfl
  have y5 : V9.cell? ⟨Y, 5, none⟩ = _ := hY.cell (i := 5) rfl
  have y6 : V9.cell? ⟨Y, 6, none⟩ = _ := hY.cell (i := 6) rfl
  have y7 : V9.cell? ⟨Y, 7, none⟩ = _ := hY.cell (i := 7) rfl
  have D5 := ints_cells [355, 1000] V9
  have CC := Lib.hid (ints_any G3 _ 2 2 z3 2 [355, 1000] [355, 1000] _ rfl rfl (by omega) (by omega) (yp.alloc (.cells (([355, 1000] : List Int).map (Value.int .i64)).toArray 3)) D5)
  have hAl := ext_alloc V9 (.cells #[.int .i64 355, .int .i64 1000] 3)
  clear D5
  rw [decide_eq_true (rfl : [355, 1000] = ([355, 1000] : List Int))] at CC
  simp only [List.map_cons, List.map_nil] at CC
  go_wp2_with fail
  refine CC.out.mono ?_; rintro r V10 ⟨rfl, hb8⟩
  have hb := ext_trans hAl hb8
  replace hbw := ext_trans hbw hb
  replace hN := hN.ext hb
  replace yp := yp.ext hb
  replace ys := ys.ext hb
  replace ye := ye.ext hb
  replace hY := hY.ext hb
  replace hLo2 := hLo2.ext hb
  clear CC hb hb8 hAl y4 y5 y6 y7
  have y4 : V10.cell? ⟨Y, 4, none⟩ = _ := hY.cell (i := 4) rfl
  have y5 : V10.cell? ⟨Y, 5, none⟩ = _ := hY.cell (i := 5) rfl
  have y6 : V10.cell? ⟨Y, 6, none⟩ = _ := hY.cell (i := 6) rfl
  have y7 : V10.cell? ⟨Y, 7, none⟩ = _ := hY.cell (i := 7) rfl
  have D5 := ints_cells [145, 0] V10
  have CC := Lib.hid (ints_any G4 _ 2 2 z4 2 [145, 0] [145, 0] _ rfl rfl (by omega) (by omega) (ys.alloc (.cells (([145, 0] : List Int).map (Value.int .i64)).toArray 3)) D5)
  have hAl := ext_alloc V10 (.cells #[.int .i64 145, .int .i64 0] 3)
  clear D5
  rw [decide_eq_true (rfl : [145, 0] = ([145, 0] : List Int))] at CC
  simp only [List.map_cons, List.map_nil] at CC
  go_wp2_with fail
  refine CC.out.mono ?_; rintro r V11 ⟨rfl, hb8⟩
  have hb := ext_trans hAl hb8
  replace hbw := ext_trans hbw hb
  replace hN := hN.ext hb
  replace yp := yp.ext hb
  replace ys := ys.ext hb
  replace ye := ye.ext hb
  replace hY := hY.ext hb
  replace hLo2 := hLo2.ext hb
  clear CC hb hb8 hAl y4 y5 y6 y7
  have y4 : V11.cell? ⟨Y, 4, none⟩ = _ := hY.cell (i := 4) rfl
  have y5 : V11.cell? ⟨Y, 5, none⟩ = _ := hY.cell (i := 5) rfl
  have y6 : V11.cell? ⟨Y, 6, none⟩ = _ := hY.cell (i := 6) rfl
  have y7 : V11.cell? ⟨Y, 7, none⟩ = _ := hY.cell (i := 7) rfl
  have D5 := ints_cells [0, 0] V11
  have CC := Lib.hid (ints_any G5 _ 2 2 z5 2 [0, 0] [0, 0] _ rfl rfl (by omega) (by omega) (ye.alloc (.cells (([0, 0] : List Int).map (Value.int .i64)).toArray 3)) D5)
  have hAl := ext_alloc V11 (.cells #[.int .i64 0, .int .i64 0] 3)
  clear D5
  rw [decide_eq_true (rfl : [0, 0] = ([0, 0] : List Int))] at CC
  simp only [List.map_cons, List.map_nil] at CC
  go_wp2_with fail
  refine CC.out.mono ?_; rintro r V12 ⟨rfl, hb8⟩
  have hb := ext_trans hAl hb8
  replace hbw := ext_trans hbw hb
  replace hN := hN.ext hb
  replace yp := yp.ext hb
  replace ys := ys.ext hb
  replace ye := ye.ext hb
  replace hY := hY.ext hb
  replace hLo2 := hLo2.ext hb
  clear CC hb hb8 hAl y4 y5 y6 y7
  have y7 : V12.cell? ⟨Y, 7, none⟩ = _ := hY.cell (i := 7) rfl
  have x0 : V12.cell? ⟨P5, 0, none⟩ = _ := hN.cell (i := 0) rfl
  have x1 : V12.cell? ⟨P5, 1, none⟩ = _ := hN.cell (i := 1) rfl
  have x2 : V12.cell? ⟨P5, 2, none⟩ = _ := hN.cell (i := 2) rfl
  have x3 : V12.cell? ⟨P5, 3, none⟩ = _ := hN.cell (i := 3) rfl
  have x4 : V12.cell? ⟨P5, 4, none⟩ = _ := hN.cell (i := 4) rfl
  have x5 : V12.cell? ⟨P5, 5, none⟩ = _ := hN.cell (i := 5) rfl
  have x6 : V12.cell? ⟨P5, 6, none⟩ = _ := hN.cell (i := 6) rfl
  have x7 : V12.cell? ⟨P5, 7, none⟩ = _ := hN.cell (i := 7) rfl
  have CT := CheckL_any ldO A3 2 c3 B3 1 d3 D3 1 e3 V12 hLo2
  rw [nm_ko] at CT
  have CC := Lib.hid (show Calls Try.prog 43 #[.agg #[.slice A3 2 c3, .slice B3 1 d3, .int .i64 150, .int .i64 400, .int .i64 600, .int .i64 30, .int .i64 21, .slice D3 1 e3]] V12 _ from CT)
  clear CT
  go_wp2_with fail
  refine CC.out.mono ?_; rintro r V20 ⟨rfl, hb⟩
  replace hbw := ext_trans hbw hb
  replace hN := hN.ext hb
  replace yp := yp.ext hb
  replace ys := ys.ext hb
  replace ye := ye.ext hb
  replace hY := hY.ext hb
  replace hLo2 := hLo2.ext hb
  clear hb CC x0 x1 x2 x3 x4 x5 x6 x7
  clear y7
  have CT := CheckTill_any ⟨[], []⟩ none none 0 0 0 0 V20 rfl rfl (by omega) (by omega) Cells.nil Cells.nil
  rw [nm_zero] at CT
  have CC := Lib.hid (show Calls Try.prog 34 #[.agg #[.slice none 0 0, .slice none 0 0]] V20 fun e w' => e = .returned (.int .i64 1) ∧ Below V20.heap.size V20 w' from CT)
  clear CT
  go_wp2_with fail
  refine CC.out.mono ?_; rintro r V21 ⟨rfl, hb⟩
  replace hbw := ext_trans hbw hb
  clear hb CC
  go_wp2_with fail
  refine (awake_any _).mono ?_; rintro r wz ⟨rfl, hbz⟩
  go_wp2
  go_ret
  exact ⟨rfl, ext_trans hbw hbz⟩
end Go.Proofs.Ytnjdlhhgnamigaa

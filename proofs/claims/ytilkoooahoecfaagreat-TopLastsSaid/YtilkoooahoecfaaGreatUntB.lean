/- Walks: rigging: CheckLog, record, stale, Until for one gear and one entry. -/
import Derived.Test.YtilkoooahoecfaaGreatUntA
import Derived.Test.YtilkoooahoecfaaGreatPgB
import Derived.Laws.ResultCell
import Derived.Laws.Rows
namespace Go.Proofs.YtilkoooahoecfaaGreat.Rg
open Go.RowKit Go.Bs Go.Pl Go.Sort Go.Rg
theorem gear_cells {w : World} {b : Nat} {d h : Int} (hG : Blk w b 42 [.int .i64 d, .int .i64 h]) : Cells w (some ⟨b, 0, none⟩) 2 Gr.enc [⟨d, h⟩] := fun i x hi => ⟨b, 0, rfl, fun j y hy => by
  have hi0 : i = 0 := by have := (List.getElem?_eq_some_iff.1 hi).1; simp at this; omega
  subst hi0
  simp at hi; subst hi
  have := hG.cell (i := j) (v := y) hy
  simpa using this⟩
set_option maxHeartbeats 2000000 in
theorem checklog_any (g e cE : Nat) (d h day : Int) (w : World) (hd : 1 ≤ d ∧ d ≤ 2000) (hh : 1 ≤ h ∧ h ≤ 20000) (hday : 0 ≤ day ∧ day ≤ 10000) (hG : Blk w g 42 [.int .i64 d, .int .i64 h])
    (he : w.cell? ⟨e, 0, none⟩ = some (.int .i64 day) ∧ w.cell? ⟨e, 1, none⟩ = some (.int .i64 0) ∧ w.cell? ⟨e, 2, none⟩ = some (.int .i64 0) ∧ w.cell? ⟨e, 3, none⟩ = some (.bool true)) :
    Calls Tryz.prog 16 #[.slice (some ⟨g, 0, none⟩) 1 1, .slice (some ⟨e, 0, none⟩) 1 cE] w fun x w' => x = .returned (.int .i64 0) ∧ Below w.heap.size w w' := by
  have hB := Blk.new w 43 [.slice (some ⟨g, 0, none⟩) 1 1]
  have hx := ext_alloc w (.cells #[.slice (some ⟨g, 0, none⟩) 1 1] 43)
  have hG1 := hG.ext hx
  have he1 := cell_ext he.1 hx
  have he2 := cell_ext he.2.1 hx
  have he3 := cell_ext he.2.2.1 hx
  have he4 := cell_ext he.2.2.2 hx
  have hel : e < w.heap.size := cell_lt he.1
  clear hG he
  go_enter Tryz.func16, Tryz.ntmps16
  go_upto_region 1 with fail
  change Blk (w.alloc (.cells #[.slice (some ⟨g, 0, none⟩) 1 1] 43)) w.heap.size _ _ at hB
  generalize w.alloc (.cells #[.slice (some ⟨g, 0, none⟩) 1 1] 43) = W1 at *
  generalize hXe : w.heap.size = X at *
  have b0 : W1.cell? ⟨X, 0, none⟩ = _ := hB.cell (i := 0) rfl
  have CA := Lib.hid (all_gr 32 #[] #[] (fun _ => true) (some ⟨g, 0, none⟩) 1 1 [⟨d, h⟩] W1 (enters_of Tryz.func32 (by kernel_rfl) rfl) rfl (by omega) (gear_cells hG1) (gear_ok ⟨d, h⟩ W1 hd hh))
  have hall : ([(⟨d, h⟩ : Gr)].all fun _ => true) = true := rfl
  rw [hall] at CA
  clear hall
  clear hG1 hd hh
  go_wp2_with fail
  refine CA.out.mono ?_; rintro e W2 ⟨rfl, hb2⟩
  clear b0 CA
  have hB2 := hB.ext hb2
  have he1 := cell_ext he1 hb2
  have he2 := cell_ext he2 hb2
  have he3 := cell_ext he3 hb2
  have he4 := cell_ext he4 hb2
  have hx2 := hx.trans (hb2.mono (by have := hx.size; omega))
  go_upto_region 5 with fail
  have hL := Blk.new W2 3 [.int .i64 0]
  have hx3 := ext_alloc W2 (.cells #[.int .i64 0] 3)
  go_upto_region 6 with fail
  change Blk (W2.alloc (.cells #[.int .i64 0] 3)) W2.heap.size _ _ at hL
  have hB3 := hB2.ext hx3
  have he1 := cell_ext he1 hx3
  have he2 := cell_ext he2 hx3
  have he3 := cell_ext he3 hx3
  have he4 := cell_ext he4 hx3
  have hXW : X < W2.heap.size := hB2.lt
  have hx4 := hx2.trans (hx3.mono (by have := hx2.size; omega))
  generalize W2.alloc (.cells #[.int .i64 0] 3) = W3 at *
  generalize W2.heap.size = L at *
  have CE := Lib.hid (entry_all day L X (some ⟨g, 0, none⟩) 1 (some ⟨e, 0, none⟩) cE W3 hL hB3 (by omega) hday ⟨e, 0, rfl, by omega, he1, he2, he3, he4⟩)
  clear hB hb2 hB2 hx hx2 hx3 he1 he2 he3 he4
  go_wp2_with fail
  refine CE.out.mono ?_; rintro e W4 ⟨rfl, hb4⟩
  go_wp2
  go_ret
  exact ⟨rfl, hXe ▸ hx4.trans (Dr.Bel.old (n := X) hb4 (by have := hx4.size; omega) (by simp; omega))⟩
def recC (d h day : Int) : List Value := [.int .i64 d, .int .i64 h, .bool true, .int .i64 day, .int .i64 0]
theorem stale_any (d h day at_ more : Int) (w : World) (h1 : 0 ≤ at_ ∧ at_ ≤ 1000000) (h2 : 0 ≤ day ∧ day ≤ 10000) (h3 : 0 ≤ more ∧ more ≤ 100000000) :
    Calls Tryz.prog 19 #[.agg #[.int .i64 d, .int .i64 h, .bool true, .int .i64 day, .int .i64 0], .int .i64 at_, .int .i64 more] w fun e w' => e = .returned (.bool (decide (d < at_ - day ∨ h < more))) ∧ Below w.heap.size w w' := by
  have hx := ext_alloc w (.cells #[.int .i64 d, .int .i64 h, .bool true, .int .i64 day, .int .i64 0] 67)
  have w1 : wrap64 (at_ - day) = at_ - day := by unfold wrap64; omega
  have w2 : wrap64 more = more := by unfold wrap64; omega
  generalize hq : decide (d < at_ - day ∨ h < more) = q
  have Hq := Lib.hid hq
  clear hq
  by_cases hc : d < at_ - day
  · have Hr := Lib.hid (show true = q by rw [← Hq.out]; simp [hc])
    go_enter Tryz.func19, Tryz.ntmps19
    go_wp2
    go_ret
    exact ⟨ret_congr (bool_congr Hr.out), hx⟩
  · have Hr := Lib.hid (show decide (h < more) = q by rw [← Hq.out]; simp [hc])
    go_enter Tryz.func19, Tryz.ntmps19
    go_wp2
    go_ret
    exact ⟨ret_congr (bool_congr Hr.out), hx⟩
set_option maxHeartbeats 2000000 in
theorem record_any (e cE : Nat) (d h day : Int) (w : World)
    (he : w.cell? ⟨e, 0, none⟩ = some (.int .i64 day) ∧ w.cell? ⟨e, 1, none⟩ = some (.int .i64 0) ∧ w.cell? ⟨e, 2, none⟩ = some (.int .i64 0) ∧ w.cell? ⟨e, 3, none⟩ = some (.bool true)) :
    Calls Tryz.prog 18 #[.agg #[.int .i64 d, .int .i64 h], .slice (some ⟨e, 0, none⟩) 1 cE, .int .i64 0, .int .i64 day] w fun x w' => x = .returned (.agg #[.int .i64 d, .int .i64 h, .bool true, .int .i64 day, .int .i64 0]) ∧ Below w.heap.size w w' := by
  have x1 := ext_alloc w (.cells #[.int .i64 d, .int .i64 h] 42)
  have hG := Blk.new w 42 [.int .i64 d, .int .i64 h]
  have x2 := ext_alloc (w.alloc (.cells #[.int .i64 d, .int .i64 h] 42)) (.cells #[.int .i64 0, .int .i64 0, .bool false, .int .i64 0, .int .i64 0] 67)
  have hO := Blk.new (w.alloc (.cells #[.int .i64 d, .int .i64 h] 42)) 67 [.int .i64 0, .int .i64 0, .bool false, .int .i64 0, .int .i64 0]
  rw [show (w.alloc (.cells #[.int .i64 d, .int .i64 h] 42)).heap.size = w.heap.size + 1 by simp] at hO
  have hG1 := hG.ext x2
  have hxw := ext_trans x1 x2
  have e1 := cell_ext he.1 hxw
  have e2 := cell_ext he.2.1 hxw
  have e3 := cell_ext he.2.2.1 hxw
  have e4 := cell_ext he.2.2.2 hxw
  have hel : e < w.heap.size := cell_lt he.1
  clear hG x1 x2 he
  go_enter Tryz.func18, Tryz.ntmps18
  go_upto_region 1 with fail
  change Blk ((w.alloc (.cells #[.int .i64 d, .int .i64 h] 42)).alloc (.cells #[.int .i64 0, .int .i64 0, .bool false, .int .i64 0, .int .i64 0] 67)) w.heap.size _ _ at hG1
  change Blk ((w.alloc (.cells #[.int .i64 d, .int .i64 h] 42)).alloc (.cells #[.int .i64 0, .int .i64 0, .bool false, .int .i64 0, .int .i64 0] 67)) _ _ _ at hO
  generalize ((w.alloc (.cells #[.int .i64 d, .int .i64 h] 42)).alloc (.cells #[.int .i64 0, .int .i64 0, .bool false, .int .i64 0, .int .i64 0] 67)) = W1 at *
  generalize hXe : w.heap.size = X at *
  have g0 : W1.cell? ⟨X, 0, none⟩ = _ := hG1.cell (i := 0) rfl
  have g1 : W1.cell? ⟨X, 1, none⟩ = _ := hG1.cell (i := 1) rfl
  have hR := Blk.new W1 67 [.int .i64 d, .int .i64 h, .bool false, .int .i64 0, .int .i64 0]
  have x3 := ext_alloc W1 (.cells #[.int .i64 d, .int .i64 h, .bool false, .int .i64 0, .int .i64 0] 67)
  have hOW := hO.lt
  go_upto_region 2 with fail
  clear g0 g1 hG1
  change Blk (W1.alloc (.cells #[.int .i64 d, .int .i64 h, .bool false, .int .i64 0, .int .i64 0] 67)) W1.heap.size _ _ at hR
  have hO2 := hO.ext x3
  have hx3 := hxw.trans (x3.mono (by omega))
  have e1 := cell_ext e1 x3
  have e2 := cell_ext e2 x3
  have e3 := cell_ext e3 x3
  have e4 := cell_ext e4 x3
  generalize W1.alloc (.cells #[.int .i64 d, .int .i64 h, .bool false, .int .i64 0, .int .i64 0] 67) = W2 at *
  generalize W1.heap.size = R at *
  clear hO hxw x3
  go_wp2
  go_loopw [11, 16] (fun _ i wr => (i = .int .i64 0 ∧ W2 = wr) ∨ (i = .int .i64 1 ∧ Blk wr R 67 [.int .i64 d, .int .i64 h, .bool true, .int .i64 day, .int .i64 0] ∧ Blk wr (X + 1) 67 [.int .i64 0, .int .i64 0, .bool false, .int .i64 0, .int .i64 0] ∧ Below X w wr)) (fun _ i _ => 1 - (intOf i).toNat)
  case atStart => exact .inl ⟨rfl, rfl⟩
  case round =>
    rcases hrel with ⟨rfl, rfl⟩ | ⟨rfl, hR2, hO3, hx4⟩
    · have hE := Blk.new W2 45 [.int .i64 day, .int .i64 0, .int .i64 0, .bool true]
      have x4 := ext_alloc W2 (.cells #[.int .i64 day, .int .i64 0, .int .i64 0, .bool true] 45)
      have hRW := hR.lt
      have hdd : ¬ day < day := by omega
      go_upto_region 5 with fail
      clear e1 e2 e3 e4
      change Blk (W2.alloc (.cells #[.int .i64 day, .int .i64 0, .int .i64 0, .bool true] 45)) W2.heap.size _ _ at hE
      have hR3 := hR.ext x4
      have hO3 := hO2.ext x4
      have hx4 := hx3.trans (x4.mono (by omega))
      generalize W2.alloc (.cells #[.int .i64 day, .int .i64 0, .int .i64 0, .bool true] 45) = W3 at *
      generalize W2.heap.size = G at *
      clear hR hO2 hx3 x4
      have g0 : W3.cell? ⟨G, 0, none⟩ = _ := hE.cell (i := 0) rfl
      have g1 : W3.cell? ⟨G, 1, none⟩ = _ := hE.cell (i := 1) rfl
      have g2 : W3.cell? ⟨G, 2, none⟩ = _ := hE.cell (i := 2) rfl
      have r4 : W3.cell? ⟨R, 4, none⟩ = _ := hR3.cell (i := 4) rfl
      have f4 := hR3.free 4
      go_upto_region 7 with fail
      have hE4 := hE.other (p := ⟨R, 4, none⟩) (show G ≠ R by omega) (.int .i64 0)
      have hO4 := hO3.other (p := ⟨R, 4, none⟩) (show X + 1 ≠ R by omega) (.int .i64 0)
      have hR4 : Blk (W3.setCell ⟨R, 4, none⟩ (.int .i64 0)) R 67 [.int .i64 d, .int .i64 h, .bool false, .int .i64 0, .int .i64 0] := hR3.set 4 (.int .i64 0)
      have hx5 := hx4.setCell (p := ⟨R, 4, none⟩) (show X ≤ R by omega) (.int .i64 0)
      generalize W3.setCell ⟨R, 4, none⟩ (.int .i64 0) = W4 at *
      clear g0 g1 g2 r4 f4 hE hO3 hR3 hx4
      have g3 : W4.cell? ⟨G, 3, none⟩ = _ := hE4.cell (i := 3) rfl
      go_upto_region 8 with fail
      clear g3
      refine Dr.wp_region_plan 5 [R] (.q [0, 1, 2] (.e1 3 (.q [4] .done))) (by kernel_rfl) (by kernel_rfl) ?_
      have hE5 := hE4.drew
      have hO5 := hO4.drew
      have hR5 := hR4.drew
      have hx6 := hx5.drew
      clear hE4 hO4 hR4 hx5
      generalize World.drew W4 = V at *
      have hGR : G ∉ [R] := by simp; omega
      have q0 := fun p => Dr.cls_cell (M := [R]) (hE5.cell (i := 0) rfl) hGR p
      with_reducible refine Dr.plan_q (l := [_, _, _]) (by with_unfolding_all exact rfl) (fun K hK => ?_)
      iterate 3 (go_big_quiet_step (fail))
      refine wpQuiet_nil (hK _ ?_); clear hK K
      clear q0
      have r2 : V.cell? ⟨R, 2, none⟩ = _ := hR5.cell (i := 2) rfl
      have f2 := hR5.free 2
      refine Dr.plan_e rfl (by rfl) (fun K hK => ?_)
      go_wp2_with fail
      refine hK _ _ (Dr.Bel.store (by simp) _) ?_; clear hK K
      have hR6 := hR5.set 2 (.bool true)
      have hO6 := hO5.other (p := ⟨R, 2, none⟩) (show X + 1 ≠ R by omega) (.bool true)
      have hx7 := hx6.setCell (p := ⟨R, 2, none⟩) (show X ≤ R by omega) (.bool true)
      generalize V.setCell ⟨R, 2, none⟩ (.bool true) = V2 at *
      with_reducible refine Dr.plan_q (l := [_]) (by with_unfolding_all exact rfl) (fun K hK => ?_)
      iterate 1 (go_big_quiet_step (fail))
      refine wpQuiet_nil (hK _ ?_); clear hK K
      have r3 : V2.cell? ⟨R, 3, none⟩ = _ := hR6.cell (i := 3) rfl
      have r4 : V2.cell? ⟨R, 4, none⟩ = _ := hR6.cell (i := 4) rfl
      have f3 := hR6.free 3
      have f4 := hR6.free 4
      clear r2 f2
      refine Dr.plan_done (tl := [_, _, _]) rfl ?_
      go_wp2
      go_roundw
      case rel => exact .inr ⟨rfl, (hR6.set 3 (.int .i64 day)).set 4 (.int .i64 0), (hO6.other (p := ⟨R, 3, none⟩) (show X + 1 ≠ R by omega) _).other (p := ⟨R, 4, none⟩) (show X + 1 ≠ R by omega) _, (hx7.setCell (p := ⟨R, 3, none⟩) (show X ≤ R by omega) _).setCell (p := ⟨R, 4, none⟩) (show X ≤ R by omega) _⟩
      case measure => simp [intOf]
    · have r0 : wr.cell? ⟨R, 0, none⟩ = _ := hR2.cell (i := 0) rfl
      have r1 : wr.cell? ⟨R, 1, none⟩ = _ := hR2.cell (i := 1) rfl
      have r2 : wr.cell? ⟨R, 2, none⟩ = _ := hR2.cell (i := 2) rfl
      have r3 : wr.cell? ⟨R, 3, none⟩ = _ := hR2.cell (i := 3) rfl
      have r4 : wr.cell? ⟨R, 4, none⟩ = _ := hR2.cell (i := 4) rfl
      have o0 : wr.cell? ⟨X + 1, 0, none⟩ = _ := hO3.cell (i := 0) rfl
      have o1 : wr.cell? ⟨X + 1, 1, none⟩ = _ := hO3.cell (i := 1) rfl
      have o2 : wr.cell? ⟨X + 1, 2, none⟩ = _ := hO3.cell (i := 2) rfl
      have o3 : wr.cell? ⟨X + 1, 3, none⟩ = _ := hO3.cell (i := 3) rfl
      have o4 : wr.cell? ⟨X + 1, 4, none⟩ = _ := hO3.cell (i := 4) rfl
      have f0 := hO3.free 0
      have f1 := hO3.free 1
      have f2 := hO3.free 2
      have f3 := hO3.free 3
      have f4 := hO3.free 4
      clear e1 e2 e3 e4 hR hO2 hx3
      go_wp2
      have hF : Blk _ (X + 1) 67 [.int .i64 d, .int .i64 h, .bool true, .int .i64 day, .int .i64 0] := ((((hO3.set 0 (.int .i64 d)).set 1 (.int .i64 h)).set 2 (.bool true)).set 3 (.int .i64 day)).set 4 (.int .i64 0)
      have hxf := ((((hx4.setCell (p := ⟨X + 1, 0, none⟩) (by simp) (.int .i64 d)).setCell (p := ⟨X + 1, 1, none⟩) (by simp) (.int .i64 h)).setCell (p := ⟨X + 1, 2, none⟩) (by simp) (.bool true)).setCell (p := ⟨X + 1, 3, none⟩) (by simp) (.int .i64 day)).setCell (p := ⟨X + 1, 4, none⟩) (by simp) (.int .i64 0)
      exact bodyPost_ret (results_cell_row rfl _ _ _ _ _ _ _ rfl hF Tryz.underlying67 rfl (by kernel_rfl)) rfl ⟨rfl, hXe ▸ hxf⟩
end Go.Proofs.YtilkoooahoecfaaGreat.Rg

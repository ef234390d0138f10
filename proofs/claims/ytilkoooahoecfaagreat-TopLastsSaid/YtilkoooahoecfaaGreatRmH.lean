/- Walks: rigging: the frame of a rig of one point and one load. -/
import Derived.Test.YtilkoooahoecfaaGreatRmG
import Derived.Test.YtilkoooahoecfaaGreatPlnB
import Derived.Test.YtilkoooahoecfaaGreatPgB
import Derived.TacticsInMore
import Derived.LoopNIn
import Derived.LoopIn
import Derived.Sort.CutIn
namespace Go.Proofs.YtilkoooahoecfaaGreat.Rg
open Go.RowKit Go.Bs Go.Pl Go.Sort Go.Rg
theorem below_of_grown2 {n : Nat} {X Y : World} {row : Option Nat} (hg : X.grownBy Y row) (hr : ∀ r, row = some r → n ≤ r) (hs : n ≤ X.heap.size) : Below n X Y :=
  (Below.refl n X).grown hg hs hr
theorem down_any (F : Nat) (w : World) : Calls Tryz.prog 42 #[.pointer (some ⟨F, 0, none⟩)] w fun e w' => ∃ D, e = .returned (.func (.func 64) #[] #[.pointer (some ⟨D, 0, none⟩)]) ∧ Blk w' D 74 [.pointer (some ⟨F, 0, none⟩)] ∧ Below w.heap.size w w' := by
  have h1 := Blk.new w 74 [.pointer (some ⟨F, 0, none⟩)]
  have hb := ext_alloc w (.cells #[.pointer (some ⟨F, 0, none⟩)] 74)
  go_enter Tryz.func42, Tryz.ntmps42
  go_wp2
  go_ret
  exact ⟨w.heap.size, rfl, h1, hb⟩
section
attribute [local go_sem] Oper.semAt_some
set_option maxRecDepth 100000 in
set_option maxHeartbeats 2000000 in
theorem down_next (F : Fence) (m : Nat) (h : F.fn 64) (hro : F.round = none) (D B : Nat) (cs : List Value) (w : World) (hD0 : Blk w D 74 [.pointer (some ⟨B, 0, none⟩)]) (hF0 : Blk w B 99 cs) (h1 : cs[1]? = some (.slice none 0 0)) :
    SeqNext F m Tryz.prog 64 #[.pointer (some ⟨D, 0, none⟩)] (fun x : Empty => x.elim) (fun _ _ => True) (fun _ => True) (fun _ _ => False) w := by
  intro l J W hW hY h0
  have x0 : W.cell? ⟨D, 0, none⟩ = _ := (hD0.ext hW).cell (i := 0) rfl
  have x1 : W.cell? ⟨B, 1, none⟩ = _ := (hF0.ext hW).cell (i := 1) h1
  have HJ := Lib.hid h0
  clear hW hD0 hF0 h0 hY
  refine callsIn_of_wp Tryz.func64 rfl h ?_ hro
  simp only [Tryz.ntmps64, List.size_toArray, List.length_cons, List.length_nil, Nat.reduceAdd, Nat.reduceSub, Array.replicate_succ, Array.replicate_zero, List.push_toArray, List.append_toArray, List.nil_append, List.cons_append]
  gi_wp2
  gi_loopw [3] (fun i wr => i = .int .i64 (-1) ∧ W = wr) (fun _ _ => 0)
  case atStart => exact ⟨rfl, rfl⟩
  case round =>
    obtain ⟨rfl, rfl⟩ := hrel
    gi_wp2
    go_end0
    exact ⟨⟨_, rfl⟩, [], trivial, HJ.out⟩
end
theorem mk1 (w : World) : (Instr.makeSlice 95 (.int .i64 1) (.int .i64 1)).run Tryz.prog w = .ok (.slice (some ⟨w.heap.size, 0, none⟩) 1 1) (w.alloc (.cells (rwC fun _ => 0).toArray 78)) := by rw [rwC_lit]; kernel_rfl
theorem mk2 (w : World) : (Instr.makeSlice 96 (.int .i64 0) (.int .i64 0)).run Tryz.prog w = .ok (.slice (some ⟨w.heap.size, 0, none⟩) 0 0) (w.alloc (.cells #[] 110)) := by kernel_rfl
theorem mk3 (w : World) : (Instr.makeSlice 97 (.int .i64 0) (.int .i64 0)).run Tryz.prog w = .ok (.slice (some ⟨w.heap.size, 0, none⟩) 0 0) (w.alloc (.cells #[] 106)) := by kernel_rfl
theorem mkd (w : World) (cs : List Value) (t : TypeId) : ∃ W B, w.alloc (.cells cs.toArray t) = W ∧ w.heap.size = B ∧ Blk W B t cs ∧ Below w.heap.size w W := ⟨_, _, rfl, rfl, Blk.new w t cs, ext_alloc w _⟩
theorem ne_blk {w : World} {A B T U : Nat} {cs ds : List Value} (h : Blk w A T cs) (k : Blk w B U ds) (hTU : U ≠ T := by decide) : B ≠ A := by
  rintro rfl
  unfold Blk at h k
  rw [h] at k
  simp only [Option.some.injEq, Obj.cells.injEq] at k
  exact hTU k.2.1.symm
section
attribute [local go_sem] Oper.semAt_some
set_option maxHeartbeats 8000000 in
set_option maxRecDepth 100000 in
theorem frame_any (p L cL : Nat) (n : Int) (w : World) (hL : LdB w L [.int .i64 (-1), .int .i64 0, .int .u8 2, .int .i64 0, .int .i64 n]) :
    Calls Tryz.prog 25 #[.agg #[.slice (some ⟨p, 0, none⟩) 1 1, .slice none 0 0, .int .i64 1000, .int .i64 1000, .int .i64 2000, .slice (some ⟨L, 0, none⟩) 1 cL]] w fun e w' => ∃ F T H U, e = .returned (.pointer (some ⟨F, 0, none⟩)) ∧ Blk w' F 99 [.slice (some ⟨p, 0, none⟩) 1 1, .slice none 0 0, .int .i64 1000, .int .i64 1000, .int .i64 2000, .slice (some ⟨L, 0, none⟩) 1 cL, .slice (some ⟨T, 0, none⟩) 1 1, .slice (some ⟨H, 0, none⟩) 0 0, .slice (some ⟨U, 0, none⟩) 0 0] ∧ RwB w' T (upd (fun _ => 0) 0 216000) ∧ Below w.heap.size w w' := by
  have k1 := mk1
  have k2 := mk2
  have k3 := mk3
  have hB := Blk.new w 58 [.slice (some ⟨p, 0, none⟩) 1 1, .slice none 0 0, .int .i64 1000, .int .i64 1000, .int .i64 2000, .slice (some ⟨L, 0, none⟩) 1 cL]
  have hx := ext_alloc w (.cells #[.slice (some ⟨p, 0, none⟩) 1 1, .slice none 0 0, .int .i64 1000, .int .i64 1000, .int .i64 2000, .slice (some ⟨L, 0, none⟩) 1 cL] 58)
  refine (callsIn_wide (n := 20)).1 (callsIn_of_wp_marks Tryz.func25 rfl trivial ?_)
  simp only [Tryz.ntmps25, List.size_toArray, List.length_cons, List.length_nil, Nat.reduceAdd, Nat.reduceSub, Array.replicate_succ, Array.replicate_zero, List.push_toArray, List.append_toArray, List.nil_append, List.cons_append]
  refine wpIn_wide.2 ?_
  go_upto_region 1 with fail
  change Blk (w.alloc (.cells #[.slice (some ⟨p, 0, none⟩) 1 1, .slice none 0 0, .int .i64 1000, .int .i64 1000, .int .i64 2000, .slice (some ⟨L, 0, none⟩) 1 cL] 58)) w.heap.size _ _ at hB
  generalize w.alloc (.cells #[.slice (some ⟨p, 0, none⟩) 1 1, .slice none 0 0, .int .i64 1000, .int .i64 1000, .int .i64 2000, .slice (some ⟨L, 0, none⟩) 1 cL] 58) = W1 at *
  generalize hXe : w.heap.size = X at *
  go_cut [3] from 14 (fun z wc => ∃ Z F T H U, z = .pointer (some ⟨Z, 0, none⟩) ∧ Blk wc Z 74 [.pointer (some ⟨F, 0, none⟩)] ∧ Blk wc F 99 [.slice (some ⟨p, 0, none⟩) 1 1, .slice none 0 0, .int .i64 1000, .int .i64 1000, .int .i64 2000, .slice (some ⟨L, 0, none⟩) 1 cL, .slice (some ⟨T, 0, none⟩) 1 1, .slice (some ⟨H, 0, none⟩) 0 0, .slice (some ⟨U, 0, none⟩) 0 0] ∧ RwB wc T (fun _ => 0) ∧ X ≤ T ∧ X ≤ Z ∧ Blk wc X 58 [.slice (some ⟨p, 0, none⟩) 1 1, .slice none 0 0, .int .i64 1000, .int .i64 1000, .int .i64 2000, .slice (some ⟨L, 0, none⟩) 1 cL] ∧ Below X w wc)
  case first =>
    refine Dr.wp_region_plan4 16 [] (.q [0, 1, 2, 3, 5, 6, 7, 9, 10, 11] (.e4 4 (.e3 8 (.e2 12 (.q [13] (.e2 14 (.e1 15 .done) 15 (.e1 14 .done))) 15 (.e1 12 (.q [13] (.e1 14 .done)))) 12 (.e2 8 (.q [13] (.e2 14 (.e1 15 .done) 15 (.e1 14 .done))) 15 (.e1 8 (.q [13] (.e1 14 .done)))) 15 (.e2 8 (.e1 12 (.q [13] (.e1 14 .done))) 12 (.e1 8 (.q [13] (.e1 14 .done))))) 8 (.e3 4 (.e2 12 (.q [13] (.e2 14 (.e1 15 .done) 15 (.e1 14 .done))) 15 (.e1 12 (.q [13] (.e1 14 .done)))) 12 (.e2 4 (.q [13] (.e2 14 (.e1 15 .done) 15 (.e1 14 .done))) 15 (.e1 4 (.q [13] (.e1 14 .done)))) 15 (.e2 4 (.e1 12 (.q [13] (.e1 14 .done))) 12 (.e1 4 (.q [13] (.e1 14 .done))))) 12 (.e3 4 (.e2 8 (.q [13] (.e2 14 (.e1 15 .done) 15 (.e1 14 .done))) 15 (.e1 8 (.q [13] (.e1 14 .done)))) 8 (.e2 4 (.q [13] (.e2 14 (.e1 15 .done) 15 (.e1 14 .done))) 15 (.e1 4 (.q [13] (.e1 14 .done)))) 15 (.e2 4 (.e1 8 (.q [13] (.e1 14 .done))) 8 (.e1 4 (.q [13] (.e1 14 .done))))) 15 (.e3 4 (.e2 8 (.e1 12 (.q [13] (.e1 14 .done))) 12 (.e1 8 (.q [13] (.e1 14 .done)))) 8 (.e2 4 (.e1 12 (.q [13] (.e1 14 .done))) 12 (.e1 4 (.q [13] (.e1 14 .done)))) 12 (.e2 4 (.e1 8 (.q [13] (.e1 14 .done))) 8 (.e1 4 (.q [13] (.e1 14 .done))))))) (by kernel_rfl) (by kernel_rfl) ?_
    have hx := hx.drew
    have hB := hB.drew
    generalize World.drew W1 = V0 at *
    have q0 := Dr.cell0 (hB.cell (i := 0) rfl)
    have q1 := Dr.cell0 (hB.cell (i := 1) rfl)
    have q2 := Dr.cell0 (hB.cell (i := 2) rfl)
    have q3 := Dr.cell0 (hB.cell (i := 3) rfl)
    have q4 := Dr.cell0 (hB.cell (i := 4) rfl)
    have q5 := Dr.cell0 (hB.cell (i := 5) rfl)
    with_reducible refine Dr.plan4_q (l := [_, _, _, _, _, _, _, _, _, _]) (by with_unfolding_all exact rfl) (fun K hK => ?_)
    iterate 10 (go_big_quiet_step (fail))
    refine wpQuiet_nil (hK _ ?_); clear hK K
    clear q0 q1 q2 q3 q4 q5
    refine Dr.plan4_e4 ?_ ?_ ?_ ?_
    · refine Dr.plan4_e rfl (by rfl) (fun K hK => ?_)
      go_wp2_with fail
      obtain ⟨V1, T, hV1, hN', hT, hb'⟩ := mkd V0 (rwC fun _ => 0) 78
      refine hK _ _ (Dr.Bel.of (ext_alloc _ _)) ?_; clear hK K
      rw [hV1, hN']
      have lT : X ≤ T := by have := hx.size; omega
      have hx := hx.trans (hb'.mono (by have := hx.size; omega))
      have hB := Blk.ext hB hb'
      clear hV1 hN' hb'
      refine Dr.plan4_e3 ?_ ?_ ?_
      · refine Dr.plan4_e rfl (by rfl) (fun K hK => ?_)
        go_wp2_with fail
        obtain ⟨V2, H, hV2, hN', hH, hb'⟩ := mkd V1 [] 110
        refine hK _ _ (Dr.Bel.of (ext_alloc _ _)) ?_; clear hK K
        rw [hV2, hN']
        have lH : X ≤ H := by have := hx.size; omega
        have hx := hx.trans (hb'.mono (by have := hx.size; omega))
        have hB := Blk.ext hB hb'
        have hT := Blk.ext hT hb'
        clear hV2 hN' hb'
        refine Dr.plan4_e2 ?_ ?_
        · refine Dr.plan4_e rfl (by rfl) (fun K hK => ?_)
          go_wp2_with fail
          obtain ⟨V3, U, hV3, hN', hU, hb'⟩ := mkd V2 [] 106
          refine hK _ _ (Dr.Bel.of (ext_alloc _ _)) ?_; clear hK K
          rw [hV3, hN']
          have lU : X ≤ U := by have := hx.size; omega
          have hx := hx.trans (hb'.mono (by have := hx.size; omega))
          have hB := Blk.ext hB hb'
          have hT := Blk.ext hT hb'
          have hH := Blk.ext hH hb'
          clear hV3 hN' hb'
          with_reducible refine Dr.plan4_q (l := [_]) (by with_unfolding_all exact rfl) (fun K hK => ?_)
          iterate 1 (go_big_quiet_step (fail))
          refine wpQuiet_nil (hK _ ?_); clear hK K
          refine Dr.plan4_e2 ?_ ?_
          · refine Dr.plan4_e rfl (by rfl) (fun K hK => ?_)
            go_wp2_with fail
            obtain ⟨V4, F, hV4, hN', hF, hb'⟩ := mkd V3 [.slice (some ⟨p, 0, none⟩) 1 1, .slice none 0 0, .int .i64 1000, .int .i64 1000, .int .i64 2000, .slice (some ⟨L, 0, none⟩) 1 cL, .slice (some ⟨T, 0, none⟩) 1 1, .slice (some ⟨H, 0, none⟩) 0 0, .slice (some ⟨U, 0, none⟩) 0 0] 99
            refine hK _ _ (Dr.Bel.of (ext_alloc _ _)) ?_; clear hK K
            rw [hV4, hN']
            have lF : X ≤ F := by have := hx.size; omega
            have hx := hx.trans (hb'.mono (by have := hx.size; omega))
            have hB := Blk.ext hB hb'
            have hT := Blk.ext hT hb'
            have hH := Blk.ext hH hb'
            have hU := Blk.ext hU hb'
            clear hV4 hN' hb'
            refine Dr.plan4_e rfl (by rfl) (fun K hK => ?_)
            go_wp2_with fail
            obtain ⟨V5, Z, hV5, hN', hZ, hb'⟩ := mkd V4 [.pointer none] 74
            refine hK _ _ (Dr.Bel.of (ext_alloc _ _)) ?_; clear hK K
            rw [hV5, hN']
            have lZ : X ≤ Z := by have := hx.size; omega
            have hx := hx.trans (hb'.mono (by have := hx.size; omega))
            have hB := Blk.ext hB hb'
            have hT := Blk.ext hT hb'
            have hH := Blk.ext hH hb'
            have hU := Blk.ext hU hb'
            have hF := Blk.ext hF hb'
            clear hV5 hN' hb'
            refine Dr.plan4_done (tl := [_]) rfl ?_
            have z0 : V5.cell? ⟨Z, 0, none⟩ = _ := hZ.cell (i := 0) rfl
            have z1 := hZ.free 0
            go_wp2
            go_meet
            case rel => exact ⟨Z, F, T, H, U, rfl, hZ.set 0 _, hF.other (ne_blk hZ hF) _, hT.other (ne_blk hZ hT) _, lT, lZ, hB.other (ne_blk hZ hB) _, hx.setCell (by exact lZ) _⟩
          · refine Dr.plan4_e rfl (by rfl) (fun K hK => ?_)
            go_wp2_with fail
            obtain ⟨V4, Z, hV4, hN', hZ, hb'⟩ := mkd V3 [.pointer none] 74
            refine hK _ _ (Dr.Bel.of (ext_alloc _ _)) ?_; clear hK K
            rw [hV4, hN']
            have lZ : X ≤ Z := by have := hx.size; omega
            have hx := hx.trans (hb'.mono (by have := hx.size; omega))
            have hB := Blk.ext hB hb'
            have hT := Blk.ext hT hb'
            have hH := Blk.ext hH hb'
            have hU := Blk.ext hU hb'
            clear hV4 hN' hb'
            refine Dr.plan4_e rfl (by rfl) (fun K hK => ?_)
            go_wp2_with fail
            obtain ⟨V5, F, hV5, hN', hF, hb'⟩ := mkd V4 [.slice (some ⟨p, 0, none⟩) 1 1, .slice none 0 0, .int .i64 1000, .int .i64 1000, .int .i64 2000, .slice (some ⟨L, 0, none⟩) 1 cL, .slice (some ⟨T, 0, none⟩) 1 1, .slice (some ⟨H, 0, none⟩) 0 0, .slice (some ⟨U, 0, none⟩) 0 0] 99
            refine hK _ _ (Dr.Bel.of (ext_alloc _ _)) ?_; clear hK K
            rw [hV5, hN']
            have lF : X ≤ F := by have := hx.size; omega
            have hx := hx.trans (hb'.mono (by have := hx.size; omega))
            have hB := Blk.ext hB hb'
            have hT := Blk.ext hT hb'
            have hH := Blk.ext hH hb'
            have hU := Blk.ext hU hb'
            have hZ := Blk.ext hZ hb'
            clear hV5 hN' hb'
            refine Dr.plan4_done (tl := [_]) rfl ?_
            have z0 : V5.cell? ⟨Z, 0, none⟩ = _ := hZ.cell (i := 0) rfl
            have z1 := hZ.free 0
            go_wp2
            go_meet
            case rel => exact ⟨Z, F, T, H, U, rfl, hZ.set 0 _, hF.other (ne_blk hZ hF) _, hT.other (ne_blk hZ hT) _, lT, lZ, hB.other (ne_blk hZ hB) _, hx.setCell (by exact lZ) _⟩
        · refine Dr.plan4_e rfl (by rfl) (fun K hK => ?_)
          go_wp2_with fail
          obtain ⟨V3, Z, hV3, hN', hZ, hb'⟩ := mkd V2 [.pointer none] 74
          refine hK _ _ (Dr.Bel.of (ext_alloc _ _)) ?_; clear hK K
          rw [hV3, hN']
          have lZ : X ≤ Z := by have := hx.size; omega
          have hx := hx.trans (hb'.mono (by have := hx.size; omega))
          have hB := Blk.ext hB hb'
          have hT := Blk.ext hT hb'
          have hH := Blk.ext hH hb'
          clear hV3 hN' hb'
          refine Dr.plan4_e rfl (by rfl) (fun K hK => ?_)
          go_wp2_with fail
          obtain ⟨V4, U, hV4, hN', hU, hb'⟩ := mkd V3 [] 106
          refine hK _ _ (Dr.Bel.of (ext_alloc _ _)) ?_; clear hK K
          rw [hV4, hN']
          have lU : X ≤ U := by have := hx.size; omega
          have hx := hx.trans (hb'.mono (by have := hx.size; omega))
          have hB := Blk.ext hB hb'
          have hT := Blk.ext hT hb'
          have hH := Blk.ext hH hb'
          have hZ := Blk.ext hZ hb'
          clear hV4 hN' hb'
          with_reducible refine Dr.plan4_q (l := [_]) (by with_unfolding_all exact rfl) (fun K hK => ?_)
          iterate 1 (go_big_quiet_step (fail))
          refine wpQuiet_nil (hK _ ?_); clear hK K
          refine Dr.plan4_e rfl (by rfl) (fun K hK => ?_)
          go_wp2_with fail
          obtain ⟨V5, F, hV5, hN', hF, hb'⟩ := mkd V4 [.slice (some ⟨p, 0, none⟩) 1 1, .slice none 0 0, .int .i64 1000, .int .i64 1000, .int .i64 2000, .slice (some ⟨L, 0, none⟩) 1 cL, .slice (some ⟨T, 0, none⟩) 1 1, .slice (some ⟨H, 0, none⟩) 0 0, .slice (some ⟨U, 0, none⟩) 0 0] 99
          refine hK _ _ (Dr.Bel.of (ext_alloc _ _)) ?_; clear hK K
          rw [hV5, hN']
          have lF : X ≤ F := by have := hx.size; omega
          have hx := hx.trans (hb'.mono (by have := hx.size; omega))
          have hB := Blk.ext hB hb'
          have hT := Blk.ext hT hb'
          have hH := Blk.ext hH hb'
          have hZ := Blk.ext hZ hb'
          have hU := Blk.ext hU hb'
          clear hV5 hN' hb'
          refine Dr.plan4_done (tl := [_]) rfl ?_
          have z0 : V5.cell? ⟨Z, 0, none⟩ = _ := hZ.cell (i := 0) rfl
          have z1 := hZ.free 0
          go_wp2
          go_meet
          case rel => exact ⟨Z, F, T, H, U, rfl, hZ.set 0 _, hF.other (ne_blk hZ hF) _, hT.other (ne_blk hZ hT) _, lT, lZ, hB.other (ne_blk hZ hB) _, hx.setCell (by exact lZ) _⟩
      · refine Dr.plan4_e rfl (by rfl) (fun K hK => ?_)
        go_wp2_with fail
        obtain ⟨V2, U, hV2, hN', hU, hb'⟩ := mkd V1 [] 106
        refine hK _ _ (Dr.Bel.of (ext_alloc _ _)) ?_; clear hK K
        rw [hV2, hN']
        have lU : X ≤ U := by have := hx.size; omega
        have hx := hx.trans (hb'.mono (by have := hx.size; omega))
        have hB := Blk.ext hB hb'
        have hT := Blk.ext hT hb'
        clear hV2 hN' hb'
        refine Dr.plan4_e2 ?_ ?_
        · refine Dr.plan4_e rfl (by rfl) (fun K hK => ?_)
          go_wp2_with fail
          obtain ⟨V3, H, hV3, hN', hH, hb'⟩ := mkd V2 [] 110
          refine hK _ _ (Dr.Bel.of (ext_alloc _ _)) ?_; clear hK K
          rw [hV3, hN']
          have lH : X ≤ H := by have := hx.size; omega
          have hx := hx.trans (hb'.mono (by have := hx.size; omega))
          have hB := Blk.ext hB hb'
          have hT := Blk.ext hT hb'
          have hU := Blk.ext hU hb'
          clear hV3 hN' hb'
          with_reducible refine Dr.plan4_q (l := [_]) (by with_unfolding_all exact rfl) (fun K hK => ?_)
          iterate 1 (go_big_quiet_step (fail))
          refine wpQuiet_nil (hK _ ?_); clear hK K
          refine Dr.plan4_e2 ?_ ?_
          · refine Dr.plan4_e rfl (by rfl) (fun K hK => ?_)
            go_wp2_with fail
            obtain ⟨V4, F, hV4, hN', hF, hb'⟩ := mkd V3 [.slice (some ⟨p, 0, none⟩) 1 1, .slice none 0 0, .int .i64 1000, .int .i64 1000, .int .i64 2000, .slice (some ⟨L, 0, none⟩) 1 cL, .slice (some ⟨T, 0, none⟩) 1 1, .slice (some ⟨H, 0, none⟩) 0 0, .slice (some ⟨U, 0, none⟩) 0 0] 99
            refine hK _ _ (Dr.Bel.of (ext_alloc _ _)) ?_; clear hK K
            rw [hV4, hN']
            have lF : X ≤ F := by have := hx.size; omega
            have hx := hx.trans (hb'.mono (by have := hx.size; omega))
            have hB := Blk.ext hB hb'
            have hT := Blk.ext hT hb'
            have hU := Blk.ext hU hb'
            have hH := Blk.ext hH hb'
            clear hV4 hN' hb'
            refine Dr.plan4_e rfl (by rfl) (fun K hK => ?_)
            go_wp2_with fail
            obtain ⟨V5, Z, hV5, hN', hZ, hb'⟩ := mkd V4 [.pointer none] 74
            refine hK _ _ (Dr.Bel.of (ext_alloc _ _)) ?_; clear hK K
            rw [hV5, hN']
            have lZ : X ≤ Z := by have := hx.size; omega
            have hx := hx.trans (hb'.mono (by have := hx.size; omega))
            have hB := Blk.ext hB hb'
            have hT := Blk.ext hT hb'
            have hU := Blk.ext hU hb'
            have hH := Blk.ext hH hb'
            have hF := Blk.ext hF hb'
            clear hV5 hN' hb'
            refine Dr.plan4_done (tl := [_]) rfl ?_
            have z0 : V5.cell? ⟨Z, 0, none⟩ = _ := hZ.cell (i := 0) rfl
            have z1 := hZ.free 0
            go_wp2
            go_meet
            case rel => exact ⟨Z, F, T, H, U, rfl, hZ.set 0 _, hF.other (ne_blk hZ hF) _, hT.other (ne_blk hZ hT) _, lT, lZ, hB.other (ne_blk hZ hB) _, hx.setCell (by exact lZ) _⟩
          · refine Dr.plan4_e rfl (by rfl) (fun K hK => ?_)
            go_wp2_with fail
            obtain ⟨V4, Z, hV4, hN', hZ, hb'⟩ := mkd V3 [.pointer none] 74
            refine hK _ _ (Dr.Bel.of (ext_alloc _ _)) ?_; clear hK K
            rw [hV4, hN']
            have lZ : X ≤ Z := by have := hx.size; omega
            have hx := hx.trans (hb'.mono (by have := hx.size; omega))
            have hB := Blk.ext hB hb'
            have hT := Blk.ext hT hb'
            have hU := Blk.ext hU hb'
            have hH := Blk.ext hH hb'
            clear hV4 hN' hb'
            refine Dr.plan4_e rfl (by rfl) (fun K hK => ?_)
            go_wp2_with fail
            obtain ⟨V5, F, hV5, hN', hF, hb'⟩ := mkd V4 [.slice (some ⟨p, 0, none⟩) 1 1, .slice none 0 0, .int .i64 1000, .int .i64 1000, .int .i64 2000, .slice (some ⟨L, 0, none⟩) 1 cL, .slice (some ⟨T, 0, none⟩) 1 1, .slice (some ⟨H, 0, none⟩) 0 0, .slice (some ⟨U, 0, none⟩) 0 0] 99
            refine hK _ _ (Dr.Bel.of (ext_alloc _ _)) ?_; clear hK K
            rw [hV5, hN']
            have lF : X ≤ F := by have := hx.size; omega
            have hx := hx.trans (hb'.mono (by have := hx.size; omega))
            have hB := Blk.ext hB hb'
            have hT := Blk.ext hT hb'
            have hU := Blk.ext hU hb'
            have hH := Blk.ext hH hb'
            have hZ := Blk.ext hZ hb'
            clear hV5 hN' hb'
            refine Dr.plan4_done (tl := [_]) rfl ?_
            have z0 : V5.cell? ⟨Z, 0, none⟩ = _ := hZ.cell (i := 0) rfl
            have z1 := hZ.free 0
            go_wp2
            go_meet
            case rel => exact ⟨Z, F, T, H, U, rfl, hZ.set 0 _, hF.other (ne_blk hZ hF) _, hT.other (ne_blk hZ hT) _, lT, lZ, hB.other (ne_blk hZ hB) _, hx.setCell (by exact lZ) _⟩
        · refine Dr.plan4_e rfl (by rfl) (fun K hK => ?_)
          go_wp2_with fail
          obtain ⟨V3, Z, hV3, hN', hZ, hb'⟩ := mkd V2 [.pointer none] 74
          refine hK _ _ (Dr.Bel.of (ext_alloc _ _)) ?_; clear hK K
          rw [hV3, hN']
          have lZ : X ≤ Z := by have := hx.size; omega
          have hx := hx.trans (hb'.mono (by have := hx.size; omega))
          have hB := Blk.ext hB hb'
          have hT := Blk.ext hT hb'
          have hU := Blk.ext hU hb'
          clear hV3 hN' hb'
          refine Dr.plan4_e rfl (by rfl) (fun K hK => ?_)
          go_wp2_with fail
          obtain ⟨V4, H, hV4, hN', hH, hb'⟩ := mkd V3 [] 110
          refine hK _ _ (Dr.Bel.of (ext_alloc _ _)) ?_; clear hK K
          rw [hV4, hN']
          have lH : X ≤ H := by have := hx.size; omega
          have hx := hx.trans (hb'.mono (by have := hx.size; omega))
          have hB := Blk.ext hB hb'
          have hT := Blk.ext hT hb'
          have hU := Blk.ext hU hb'
          have hZ := Blk.ext hZ hb'
          clear hV4 hN' hb'
          with_reducible refine Dr.plan4_q (l := [_]) (by with_unfolding_all exact rfl) (fun K hK => ?_)
          iterate 1 (go_big_quiet_step (fail))
          refine wpQuiet_nil (hK _ ?_); clear hK K
          refine Dr.plan4_e rfl (by rfl) (fun K hK => ?_)
          go_wp2_with fail
          obtain ⟨V5, F, hV5, hN', hF, hb'⟩ := mkd V4 [.slice (some ⟨p, 0, none⟩) 1 1, .slice none 0 0, .int .i64 1000, .int .i64 1000, .int .i64 2000, .slice (some ⟨L, 0, none⟩) 1 cL, .slice (some ⟨T, 0, none⟩) 1 1, .slice (some ⟨H, 0, none⟩) 0 0, .slice (some ⟨U, 0, none⟩) 0 0] 99
          refine hK _ _ (Dr.Bel.of (ext_alloc _ _)) ?_; clear hK K
          rw [hV5, hN']
          have lF : X ≤ F := by have := hx.size; omega
          have hx := hx.trans (hb'.mono (by have := hx.size; omega))
          have hB := Blk.ext hB hb'
          have hT := Blk.ext hT hb'
          have hU := Blk.ext hU hb'
          have hZ := Blk.ext hZ hb'
          have hH := Blk.ext hH hb'
          clear hV5 hN' hb'
          refine Dr.plan4_done (tl := [_]) rfl ?_
          have z0 : V5.cell? ⟨Z, 0, none⟩ = _ := hZ.cell (i := 0) rfl
          have z1 := hZ.free 0
          go_wp2
          go_meet
          case rel => exact ⟨Z, F, T, H, U, rfl, hZ.set 0 _, hF.other (ne_blk hZ hF) _, hT.other (ne_blk hZ hT) _, lT, lZ, hB.other (ne_blk hZ hB) _, hx.setCell (by exact lZ) _⟩
      · refine Dr.plan4_e rfl (by rfl) (fun K hK => ?_)
        go_wp2_with fail
        obtain ⟨V2, Z, hV2, hN', hZ, hb'⟩ := mkd V1 [.pointer none] 74
        refine hK _ _ (Dr.Bel.of (ext_alloc _ _)) ?_; clear hK K
        rw [hV2, hN']
        have lZ : X ≤ Z := by have := hx.size; omega
        have hx := hx.trans (hb'.mono (by have := hx.size; omega))
        have hB := Blk.ext hB hb'
        have hT := Blk.ext hT hb'
        clear hV2 hN' hb'
        refine Dr.plan4_e2 ?_ ?_
        · refine Dr.plan4_e rfl (by rfl) (fun K hK => ?_)
          go_wp2_with fail
          obtain ⟨V3, H, hV3, hN', hH, hb'⟩ := mkd V2 [] 110
          refine hK _ _ (Dr.Bel.of (ext_alloc _ _)) ?_; clear hK K
          rw [hV3, hN']
          have lH : X ≤ H := by have := hx.size; omega
          have hx := hx.trans (hb'.mono (by have := hx.size; omega))
          have hB := Blk.ext hB hb'
          have hT := Blk.ext hT hb'
          have hZ := Blk.ext hZ hb'
          clear hV3 hN' hb'
          refine Dr.plan4_e rfl (by rfl) (fun K hK => ?_)
          go_wp2_with fail
          obtain ⟨V4, U, hV4, hN', hU, hb'⟩ := mkd V3 [] 106
          refine hK _ _ (Dr.Bel.of (ext_alloc _ _)) ?_; clear hK K
          rw [hV4, hN']
          have lU : X ≤ U := by have := hx.size; omega
          have hx := hx.trans (hb'.mono (by have := hx.size; omega))
          have hB := Blk.ext hB hb'
          have hT := Blk.ext hT hb'
          have hZ := Blk.ext hZ hb'
          have hH := Blk.ext hH hb'
          clear hV4 hN' hb'
          with_reducible refine Dr.plan4_q (l := [_]) (by with_unfolding_all exact rfl) (fun K hK => ?_)
          iterate 1 (go_big_quiet_step (fail))
          refine wpQuiet_nil (hK _ ?_); clear hK K
          refine Dr.plan4_e rfl (by rfl) (fun K hK => ?_)
          go_wp2_with fail
          obtain ⟨V5, F, hV5, hN', hF, hb'⟩ := mkd V4 [.slice (some ⟨p, 0, none⟩) 1 1, .slice none 0 0, .int .i64 1000, .int .i64 1000, .int .i64 2000, .slice (some ⟨L, 0, none⟩) 1 cL, .slice (some ⟨T, 0, none⟩) 1 1, .slice (some ⟨H, 0, none⟩) 0 0, .slice (some ⟨U, 0, none⟩) 0 0] 99
          refine hK _ _ (Dr.Bel.of (ext_alloc _ _)) ?_; clear hK K
          rw [hV5, hN']
          have lF : X ≤ F := by have := hx.size; omega
          have hx := hx.trans (hb'.mono (by have := hx.size; omega))
          have hB := Blk.ext hB hb'
          have hT := Blk.ext hT hb'
          have hZ := Blk.ext hZ hb'
          have hH := Blk.ext hH hb'
          have hU := Blk.ext hU hb'
          clear hV5 hN' hb'
          refine Dr.plan4_done (tl := [_]) rfl ?_
          have z0 : V5.cell? ⟨Z, 0, none⟩ = _ := hZ.cell (i := 0) rfl
          have z1 := hZ.free 0
          go_wp2
          go_meet
          case rel => exact ⟨Z, F, T, H, U, rfl, hZ.set 0 _, hF.other (ne_blk hZ hF) _, hT.other (ne_blk hZ hT) _, lT, lZ, hB.other (ne_blk hZ hB) _, hx.setCell (by exact lZ) _⟩
        · refine Dr.plan4_e rfl (by rfl) (fun K hK => ?_)
          go_wp2_with fail
          obtain ⟨V3, U, hV3, hN', hU, hb'⟩ := mkd V2 [] 106
          refine hK _ _ (Dr.Bel.of (ext_alloc _ _)) ?_; clear hK K
          rw [hV3, hN']
          have lU : X ≤ U := by have := hx.size; omega
          have hx := hx.trans (hb'.mono (by have := hx.size; omega))
          have hB := Blk.ext hB hb'
          have hT := Blk.ext hT hb'
          have hZ := Blk.ext hZ hb'
          clear hV3 hN' hb'
          refine Dr.plan4_e rfl (by rfl) (fun K hK => ?_)
          go_wp2_with fail
          obtain ⟨V4, H, hV4, hN', hH, hb'⟩ := mkd V3 [] 110
          refine hK _ _ (Dr.Bel.of (ext_alloc _ _)) ?_; clear hK K
          rw [hV4, hN']
          have lH : X ≤ H := by have := hx.size; omega
          have hx := hx.trans (hb'.mono (by have := hx.size; omega))
          have hB := Blk.ext hB hb'
          have hT := Blk.ext hT hb'
          have hZ := Blk.ext hZ hb'
          have hU := Blk.ext hU hb'
          clear hV4 hN' hb'
          with_reducible refine Dr.plan4_q (l := [_]) (by with_unfolding_all exact rfl) (fun K hK => ?_)
          iterate 1 (go_big_quiet_step (fail))
          refine wpQuiet_nil (hK _ ?_); clear hK K
          refine Dr.plan4_e rfl (by rfl) (fun K hK => ?_)
          go_wp2_with fail
          obtain ⟨V5, F, hV5, hN', hF, hb'⟩ := mkd V4 [.slice (some ⟨p, 0, none⟩) 1 1, .slice none 0 0, .int .i64 1000, .int .i64 1000, .int .i64 2000, .slice (some ⟨L, 0, none⟩) 1 cL, .slice (some ⟨T, 0, none⟩) 1 1, .slice (some ⟨H, 0, none⟩) 0 0, .slice (some ⟨U, 0, none⟩) 0 0] 99
          refine hK _ _ (Dr.Bel.of (ext_alloc _ _)) ?_; clear hK K
          rw [hV5, hN']
          have lF : X ≤ F := by have := hx.size; omega
          have hx := hx.trans (hb'.mono (by have := hx.size; omega))
          have hB := Blk.ext hB hb'
          have hT := Blk.ext hT hb'
          have hZ := Blk.ext hZ hb'
          have hU := Blk.ext hU hb'
          have hH := Blk.ext hH hb'
          clear hV5 hN' hb'
          refine Dr.plan4_done (tl := [_]) rfl ?_
          have z0 : V5.cell? ⟨Z, 0, none⟩ = _ := hZ.cell (i := 0) rfl
          have z1 := hZ.free 0
          go_wp2
          go_meet
          case rel => exact ⟨Z, F, T, H, U, rfl, hZ.set 0 _, hF.other (ne_blk hZ hF) _, hT.other (ne_blk hZ hT) _, lT, lZ, hB.other (ne_blk hZ hB) _, hx.setCell (by exact lZ) _⟩
    · refine Dr.plan4_e rfl (by rfl) (fun K hK => ?_)
      go_wp2_with fail
      obtain ⟨V1, H, hV1, hN', hH, hb'⟩ := mkd V0 [] 110
      refine hK _ _ (Dr.Bel.of (ext_alloc _ _)) ?_; clear hK K
      rw [hV1, hN']
      have lH : X ≤ H := by have := hx.size; omega
      have hx := hx.trans (hb'.mono (by have := hx.size; omega))
      have hB := Blk.ext hB hb'
      clear hV1 hN' hb'
      refine Dr.plan4_e3 ?_ ?_ ?_
      · refine Dr.plan4_e rfl (by rfl) (fun K hK => ?_)
        go_wp2_with fail
        obtain ⟨V2, T, hV2, hN', hT, hb'⟩ := mkd V1 (rwC fun _ => 0) 78
        refine hK _ _ (Dr.Bel.of (ext_alloc _ _)) ?_; clear hK K
        rw [hV2, hN']
        have lT : X ≤ T := by have := hx.size; omega
        have hx := hx.trans (hb'.mono (by have := hx.size; omega))
        have hB := Blk.ext hB hb'
        have hH := Blk.ext hH hb'
        clear hV2 hN' hb'
        refine Dr.plan4_e2 ?_ ?_
        · refine Dr.plan4_e rfl (by rfl) (fun K hK => ?_)
          go_wp2_with fail
          obtain ⟨V3, U, hV3, hN', hU, hb'⟩ := mkd V2 [] 106
          refine hK _ _ (Dr.Bel.of (ext_alloc _ _)) ?_; clear hK K
          rw [hV3, hN']
          have lU : X ≤ U := by have := hx.size; omega
          have hx := hx.trans (hb'.mono (by have := hx.size; omega))
          have hB := Blk.ext hB hb'
          have hH := Blk.ext hH hb'
          have hT := Blk.ext hT hb'
          clear hV3 hN' hb'
          with_reducible refine Dr.plan4_q (l := [_]) (by with_unfolding_all exact rfl) (fun K hK => ?_)
          iterate 1 (go_big_quiet_step (fail))
          refine wpQuiet_nil (hK _ ?_); clear hK K
          refine Dr.plan4_e2 ?_ ?_
          · refine Dr.plan4_e rfl (by rfl) (fun K hK => ?_)
            go_wp2_with fail
            obtain ⟨V4, F, hV4, hN', hF, hb'⟩ := mkd V3 [.slice (some ⟨p, 0, none⟩) 1 1, .slice none 0 0, .int .i64 1000, .int .i64 1000, .int .i64 2000, .slice (some ⟨L, 0, none⟩) 1 cL, .slice (some ⟨T, 0, none⟩) 1 1, .slice (some ⟨H, 0, none⟩) 0 0, .slice (some ⟨U, 0, none⟩) 0 0] 99
            refine hK _ _ (Dr.Bel.of (ext_alloc _ _)) ?_; clear hK K
            rw [hV4, hN']
            have lF : X ≤ F := by have := hx.size; omega
            have hx := hx.trans (hb'.mono (by have := hx.size; omega))
            have hB := Blk.ext hB hb'
            have hH := Blk.ext hH hb'
            have hT := Blk.ext hT hb'
            have hU := Blk.ext hU hb'
            clear hV4 hN' hb'
            refine Dr.plan4_e rfl (by rfl) (fun K hK => ?_)
            go_wp2_with fail
            obtain ⟨V5, Z, hV5, hN', hZ, hb'⟩ := mkd V4 [.pointer none] 74
            refine hK _ _ (Dr.Bel.of (ext_alloc _ _)) ?_; clear hK K
            rw [hV5, hN']
            have lZ : X ≤ Z := by have := hx.size; omega
            have hx := hx.trans (hb'.mono (by have := hx.size; omega))
            have hB := Blk.ext hB hb'
            have hH := Blk.ext hH hb'
            have hT := Blk.ext hT hb'
            have hU := Blk.ext hU hb'
            have hF := Blk.ext hF hb'
            clear hV5 hN' hb'
            refine Dr.plan4_done (tl := [_]) rfl ?_
            have z0 : V5.cell? ⟨Z, 0, none⟩ = _ := hZ.cell (i := 0) rfl
            have z1 := hZ.free 0
            go_wp2
            go_meet
            case rel => exact ⟨Z, F, T, H, U, rfl, hZ.set 0 _, hF.other (ne_blk hZ hF) _, hT.other (ne_blk hZ hT) _, lT, lZ, hB.other (ne_blk hZ hB) _, hx.setCell (by exact lZ) _⟩
          · refine Dr.plan4_e rfl (by rfl) (fun K hK => ?_)
            go_wp2_with fail
            obtain ⟨V4, Z, hV4, hN', hZ, hb'⟩ := mkd V3 [.pointer none] 74
            refine hK _ _ (Dr.Bel.of (ext_alloc _ _)) ?_; clear hK K
            rw [hV4, hN']
            have lZ : X ≤ Z := by have := hx.size; omega
            have hx := hx.trans (hb'.mono (by have := hx.size; omega))
            have hB := Blk.ext hB hb'
            have hH := Blk.ext hH hb'
            have hT := Blk.ext hT hb'
            have hU := Blk.ext hU hb'
            clear hV4 hN' hb'
            refine Dr.plan4_e rfl (by rfl) (fun K hK => ?_)
            go_wp2_with fail
            obtain ⟨V5, F, hV5, hN', hF, hb'⟩ := mkd V4 [.slice (some ⟨p, 0, none⟩) 1 1, .slice none 0 0, .int .i64 1000, .int .i64 1000, .int .i64 2000, .slice (some ⟨L, 0, none⟩) 1 cL, .slice (some ⟨T, 0, none⟩) 1 1, .slice (some ⟨H, 0, none⟩) 0 0, .slice (some ⟨U, 0, none⟩) 0 0] 99
            refine hK _ _ (Dr.Bel.of (ext_alloc _ _)) ?_; clear hK K
            rw [hV5, hN']
            have lF : X ≤ F := by have := hx.size; omega
            have hx := hx.trans (hb'.mono (by have := hx.size; omega))
            have hB := Blk.ext hB hb'
            have hH := Blk.ext hH hb'
            have hT := Blk.ext hT hb'
            have hU := Blk.ext hU hb'
            have hZ := Blk.ext hZ hb'
            clear hV5 hN' hb'
            refine Dr.plan4_done (tl := [_]) rfl ?_
            have z0 : V5.cell? ⟨Z, 0, none⟩ = _ := hZ.cell (i := 0) rfl
            have z1 := hZ.free 0
            go_wp2
            go_meet
            case rel => exact ⟨Z, F, T, H, U, rfl, hZ.set 0 _, hF.other (ne_blk hZ hF) _, hT.other (ne_blk hZ hT) _, lT, lZ, hB.other (ne_blk hZ hB) _, hx.setCell (by exact lZ) _⟩
        · refine Dr.plan4_e rfl (by rfl) (fun K hK => ?_)
          go_wp2_with fail
          obtain ⟨V3, Z, hV3, hN', hZ, hb'⟩ := mkd V2 [.pointer none] 74
          refine hK _ _ (Dr.Bel.of (ext_alloc _ _)) ?_; clear hK K
          rw [hV3, hN']
          have lZ : X ≤ Z := by have := hx.size; omega
          have hx := hx.trans (hb'.mono (by have := hx.size; omega))
          have hB := Blk.ext hB hb'
          have hH := Blk.ext hH hb'
          have hT := Blk.ext hT hb'
          clear hV3 hN' hb'
          refine Dr.plan4_e rfl (by rfl) (fun K hK => ?_)
          go_wp2_with fail
          obtain ⟨V4, U, hV4, hN', hU, hb'⟩ := mkd V3 [] 106
          refine hK _ _ (Dr.Bel.of (ext_alloc _ _)) ?_; clear hK K
          rw [hV4, hN']
          have lU : X ≤ U := by have := hx.size; omega
          have hx := hx.trans (hb'.mono (by have := hx.size; omega))
          have hB := Blk.ext hB hb'
          have hH := Blk.ext hH hb'
          have hT := Blk.ext hT hb'
          have hZ := Blk.ext hZ hb'
          clear hV4 hN' hb'
          with_reducible refine Dr.plan4_q (l := [_]) (by with_unfolding_all exact rfl) (fun K hK => ?_)
          iterate 1 (go_big_quiet_step (fail))
          refine wpQuiet_nil (hK _ ?_); clear hK K
          refine Dr.plan4_e rfl (by rfl) (fun K hK => ?_)
          go_wp2_with fail
          obtain ⟨V5, F, hV5, hN', hF, hb'⟩ := mkd V4 [.slice (some ⟨p, 0, none⟩) 1 1, .slice none 0 0, .int .i64 1000, .int .i64 1000, .int .i64 2000, .slice (some ⟨L, 0, none⟩) 1 cL, .slice (some ⟨T, 0, none⟩) 1 1, .slice (some ⟨H, 0, none⟩) 0 0, .slice (some ⟨U, 0, none⟩) 0 0] 99
          refine hK _ _ (Dr.Bel.of (ext_alloc _ _)) ?_; clear hK K
          rw [hV5, hN']
          have lF : X ≤ F := by have := hx.size; omega
          have hx := hx.trans (hb'.mono (by have := hx.size; omega))
          have hB := Blk.ext hB hb'
          have hH := Blk.ext hH hb'
          have hT := Blk.ext hT hb'
          have hZ := Blk.ext hZ hb'
          have hU := Blk.ext hU hb'
          clear hV5 hN' hb'
          refine Dr.plan4_done (tl := [_]) rfl ?_
          have z0 : V5.cell? ⟨Z, 0, none⟩ = _ := hZ.cell (i := 0) rfl
          have z1 := hZ.free 0
          go_wp2
          go_meet
          case rel => exact ⟨Z, F, T, H, U, rfl, hZ.set 0 _, hF.other (ne_blk hZ hF) _, hT.other (ne_blk hZ hT) _, lT, lZ, hB.other (ne_blk hZ hB) _, hx.setCell (by exact lZ) _⟩
      · refine Dr.plan4_e rfl (by rfl) (fun K hK => ?_)
        go_wp2_with fail
        obtain ⟨V2, U, hV2, hN', hU, hb'⟩ := mkd V1 [] 106
        refine hK _ _ (Dr.Bel.of (ext_alloc _ _)) ?_; clear hK K
        rw [hV2, hN']
        have lU : X ≤ U := by have := hx.size; omega
        have hx := hx.trans (hb'.mono (by have := hx.size; omega))
        have hB := Blk.ext hB hb'
        have hH := Blk.ext hH hb'
        clear hV2 hN' hb'
        refine Dr.plan4_e2 ?_ ?_
        · refine Dr.plan4_e rfl (by rfl) (fun K hK => ?_)
          go_wp2_with fail
          obtain ⟨V3, T, hV3, hN', hT, hb'⟩ := mkd V2 (rwC fun _ => 0) 78
          refine hK _ _ (Dr.Bel.of (ext_alloc _ _)) ?_; clear hK K
          rw [hV3, hN']
          have lT : X ≤ T := by have := hx.size; omega
          have hx := hx.trans (hb'.mono (by have := hx.size; omega))
          have hB := Blk.ext hB hb'
          have hH := Blk.ext hH hb'
          have hU := Blk.ext hU hb'
          clear hV3 hN' hb'
          with_reducible refine Dr.plan4_q (l := [_]) (by with_unfolding_all exact rfl) (fun K hK => ?_)
          iterate 1 (go_big_quiet_step (fail))
          refine wpQuiet_nil (hK _ ?_); clear hK K
          refine Dr.plan4_e2 ?_ ?_
          · refine Dr.plan4_e rfl (by rfl) (fun K hK => ?_)
            go_wp2_with fail
            obtain ⟨V4, F, hV4, hN', hF, hb'⟩ := mkd V3 [.slice (some ⟨p, 0, none⟩) 1 1, .slice none 0 0, .int .i64 1000, .int .i64 1000, .int .i64 2000, .slice (some ⟨L, 0, none⟩) 1 cL, .slice (some ⟨T, 0, none⟩) 1 1, .slice (some ⟨H, 0, none⟩) 0 0, .slice (some ⟨U, 0, none⟩) 0 0] 99
            refine hK _ _ (Dr.Bel.of (ext_alloc _ _)) ?_; clear hK K
            rw [hV4, hN']
            have lF : X ≤ F := by have := hx.size; omega
            have hx := hx.trans (hb'.mono (by have := hx.size; omega))
            have hB := Blk.ext hB hb'
            have hH := Blk.ext hH hb'
            have hU := Blk.ext hU hb'
            have hT := Blk.ext hT hb'
            clear hV4 hN' hb'
            refine Dr.plan4_e rfl (by rfl) (fun K hK => ?_)
            go_wp2_with fail
            obtain ⟨V5, Z, hV5, hN', hZ, hb'⟩ := mkd V4 [.pointer none] 74
            refine hK _ _ (Dr.Bel.of (ext_alloc _ _)) ?_; clear hK K
            rw [hV5, hN']
            have lZ : X ≤ Z := by have := hx.size; omega
            have hx := hx.trans (hb'.mono (by have := hx.size; omega))
            have hB := Blk.ext hB hb'
            have hH := Blk.ext hH hb'
            have hU := Blk.ext hU hb'
            have hT := Blk.ext hT hb'
            have hF := Blk.ext hF hb'
            clear hV5 hN' hb'
            refine Dr.plan4_done (tl := [_]) rfl ?_
            have z0 : V5.cell? ⟨Z, 0, none⟩ = _ := hZ.cell (i := 0) rfl
            have z1 := hZ.free 0
            go_wp2
            go_meet
            case rel => exact ⟨Z, F, T, H, U, rfl, hZ.set 0 _, hF.other (ne_blk hZ hF) _, hT.other (ne_blk hZ hT) _, lT, lZ, hB.other (ne_blk hZ hB) _, hx.setCell (by exact lZ) _⟩
          · refine Dr.plan4_e rfl (by rfl) (fun K hK => ?_)
            go_wp2_with fail
            obtain ⟨V4, Z, hV4, hN', hZ, hb'⟩ := mkd V3 [.pointer none] 74
            refine hK _ _ (Dr.Bel.of (ext_alloc _ _)) ?_; clear hK K
            rw [hV4, hN']
            have lZ : X ≤ Z := by have := hx.size; omega
            have hx := hx.trans (hb'.mono (by have := hx.size; omega))
            have hB := Blk.ext hB hb'
            have hH := Blk.ext hH hb'
            have hU := Blk.ext hU hb'
            have hT := Blk.ext hT hb'
            clear hV4 hN' hb'
            refine Dr.plan4_e rfl (by rfl) (fun K hK => ?_)
            go_wp2_with fail
            obtain ⟨V5, F, hV5, hN', hF, hb'⟩ := mkd V4 [.slice (some ⟨p, 0, none⟩) 1 1, .slice none 0 0, .int .i64 1000, .int .i64 1000, .int .i64 2000, .slice (some ⟨L, 0, none⟩) 1 cL, .slice (some ⟨T, 0, none⟩) 1 1, .slice (some ⟨H, 0, none⟩) 0 0, .slice (some ⟨U, 0, none⟩) 0 0] 99
            refine hK _ _ (Dr.Bel.of (ext_alloc _ _)) ?_; clear hK K
            rw [hV5, hN']
            have lF : X ≤ F := by have := hx.size; omega
            have hx := hx.trans (hb'.mono (by have := hx.size; omega))
            have hB := Blk.ext hB hb'
            have hH := Blk.ext hH hb'
            have hU := Blk.ext hU hb'
            have hT := Blk.ext hT hb'
            have hZ := Blk.ext hZ hb'
            clear hV5 hN' hb'
            refine Dr.plan4_done (tl := [_]) rfl ?_
            have z0 : V5.cell? ⟨Z, 0, none⟩ = _ := hZ.cell (i := 0) rfl
            have z1 := hZ.free 0
            go_wp2
            go_meet
            case rel => exact ⟨Z, F, T, H, U, rfl, hZ.set 0 _, hF.other (ne_blk hZ hF) _, hT.other (ne_blk hZ hT) _, lT, lZ, hB.other (ne_blk hZ hB) _, hx.setCell (by exact lZ) _⟩
        · refine Dr.plan4_e rfl (by rfl) (fun K hK => ?_)
          go_wp2_with fail
          obtain ⟨V3, Z, hV3, hN', hZ, hb'⟩ := mkd V2 [.pointer none] 74
          refine hK _ _ (Dr.Bel.of (ext_alloc _ _)) ?_; clear hK K
          rw [hV3, hN']
          have lZ : X ≤ Z := by have := hx.size; omega
          have hx := hx.trans (hb'.mono (by have := hx.size; omega))
          have hB := Blk.ext hB hb'
          have hH := Blk.ext hH hb'
          have hU := Blk.ext hU hb'
          clear hV3 hN' hb'
          refine Dr.plan4_e rfl (by rfl) (fun K hK => ?_)
          go_wp2_with fail
          obtain ⟨V4, T, hV4, hN', hT, hb'⟩ := mkd V3 (rwC fun _ => 0) 78
          refine hK _ _ (Dr.Bel.of (ext_alloc _ _)) ?_; clear hK K
          rw [hV4, hN']
          have lT : X ≤ T := by have := hx.size; omega
          have hx := hx.trans (hb'.mono (by have := hx.size; omega))
          have hB := Blk.ext hB hb'
          have hH := Blk.ext hH hb'
          have hU := Blk.ext hU hb'
          have hZ := Blk.ext hZ hb'
          clear hV4 hN' hb'
          with_reducible refine Dr.plan4_q (l := [_]) (by with_unfolding_all exact rfl) (fun K hK => ?_)
          iterate 1 (go_big_quiet_step (fail))
          refine wpQuiet_nil (hK _ ?_); clear hK K
          refine Dr.plan4_e rfl (by rfl) (fun K hK => ?_)
          go_wp2_with fail
          obtain ⟨V5, F, hV5, hN', hF, hb'⟩ := mkd V4 [.slice (some ⟨p, 0, none⟩) 1 1, .slice none 0 0, .int .i64 1000, .int .i64 1000, .int .i64 2000, .slice (some ⟨L, 0, none⟩) 1 cL, .slice (some ⟨T, 0, none⟩) 1 1, .slice (some ⟨H, 0, none⟩) 0 0, .slice (some ⟨U, 0, none⟩) 0 0] 99
          refine hK _ _ (Dr.Bel.of (ext_alloc _ _)) ?_; clear hK K
          rw [hV5, hN']
          have lF : X ≤ F := by have := hx.size; omega
          have hx := hx.trans (hb'.mono (by have := hx.size; omega))
          have hB := Blk.ext hB hb'
          have hH := Blk.ext hH hb'
          have hU := Blk.ext hU hb'
          have hZ := Blk.ext hZ hb'
          have hT := Blk.ext hT hb'
          clear hV5 hN' hb'
          refine Dr.plan4_done (tl := [_]) rfl ?_
          have z0 : V5.cell? ⟨Z, 0, none⟩ = _ := hZ.cell (i := 0) rfl
          have z1 := hZ.free 0
          go_wp2
          go_meet
          case rel => exact ⟨Z, F, T, H, U, rfl, hZ.set 0 _, hF.other (ne_blk hZ hF) _, hT.other (ne_blk hZ hT) _, lT, lZ, hB.other (ne_blk hZ hB) _, hx.setCell (by exact lZ) _⟩
      · refine Dr.plan4_e rfl (by rfl) (fun K hK => ?_)
        go_wp2_with fail
        obtain ⟨V2, Z, hV2, hN', hZ, hb'⟩ := mkd V1 [.pointer none] 74
        refine hK _ _ (Dr.Bel.of (ext_alloc _ _)) ?_; clear hK K
        rw [hV2, hN']
        have lZ : X ≤ Z := by have := hx.size; omega
        have hx := hx.trans (hb'.mono (by have := hx.size; omega))
        have hB := Blk.ext hB hb'
        have hH := Blk.ext hH hb'
        clear hV2 hN' hb'
        refine Dr.plan4_e2 ?_ ?_
        · refine Dr.plan4_e rfl (by rfl) (fun K hK => ?_)
          go_wp2_with fail
          obtain ⟨V3, T, hV3, hN', hT, hb'⟩ := mkd V2 (rwC fun _ => 0) 78
          refine hK _ _ (Dr.Bel.of (ext_alloc _ _)) ?_; clear hK K
          rw [hV3, hN']
          have lT : X ≤ T := by have := hx.size; omega
          have hx := hx.trans (hb'.mono (by have := hx.size; omega))
          have hB := Blk.ext hB hb'
          have hH := Blk.ext hH hb'
          have hZ := Blk.ext hZ hb'
          clear hV3 hN' hb'
          refine Dr.plan4_e rfl (by rfl) (fun K hK => ?_)
          go_wp2_with fail
          obtain ⟨V4, U, hV4, hN', hU, hb'⟩ := mkd V3 [] 106
          refine hK _ _ (Dr.Bel.of (ext_alloc _ _)) ?_; clear hK K
          rw [hV4, hN']
          have lU : X ≤ U := by have := hx.size; omega
          have hx := hx.trans (hb'.mono (by have := hx.size; omega))
          have hB := Blk.ext hB hb'
          have hH := Blk.ext hH hb'
          have hZ := Blk.ext hZ hb'
          have hT := Blk.ext hT hb'
          clear hV4 hN' hb'
          with_reducible refine Dr.plan4_q (l := [_]) (by with_unfolding_all exact rfl) (fun K hK => ?_)
          iterate 1 (go_big_quiet_step (fail))
          refine wpQuiet_nil (hK _ ?_); clear hK K
          refine Dr.plan4_e rfl (by rfl) (fun K hK => ?_)
          go_wp2_with fail
          obtain ⟨V5, F, hV5, hN', hF, hb'⟩ := mkd V4 [.slice (some ⟨p, 0, none⟩) 1 1, .slice none 0 0, .int .i64 1000, .int .i64 1000, .int .i64 2000, .slice (some ⟨L, 0, none⟩) 1 cL, .slice (some ⟨T, 0, none⟩) 1 1, .slice (some ⟨H, 0, none⟩) 0 0, .slice (some ⟨U, 0, none⟩) 0 0] 99
          refine hK _ _ (Dr.Bel.of (ext_alloc _ _)) ?_; clear hK K
          rw [hV5, hN']
          have lF : X ≤ F := by have := hx.size; omega
          have hx := hx.trans (hb'.mono (by have := hx.size; omega))
          have hB := Blk.ext hB hb'
          have hH := Blk.ext hH hb'
          have hZ := Blk.ext hZ hb'
          have hT := Blk.ext hT hb'
          have hU := Blk.ext hU hb'
          clear hV5 hN' hb'
          refine Dr.plan4_done (tl := [_]) rfl ?_
          have z0 : V5.cell? ⟨Z, 0, none⟩ = _ := hZ.cell (i := 0) rfl
          have z1 := hZ.free 0
          go_wp2
          go_meet
          case rel => exact ⟨Z, F, T, H, U, rfl, hZ.set 0 _, hF.other (ne_blk hZ hF) _, hT.other (ne_blk hZ hT) _, lT, lZ, hB.other (ne_blk hZ hB) _, hx.setCell (by exact lZ) _⟩
        · refine Dr.plan4_e rfl (by rfl) (fun K hK => ?_)
          go_wp2_with fail
          obtain ⟨V3, U, hV3, hN', hU, hb'⟩ := mkd V2 [] 106
          refine hK _ _ (Dr.Bel.of (ext_alloc _ _)) ?_; clear hK K
          rw [hV3, hN']
          have lU : X ≤ U := by have := hx.size; omega
          have hx := hx.trans (hb'.mono (by have := hx.size; omega))
          have hB := Blk.ext hB hb'
          have hH := Blk.ext hH hb'
          have hZ := Blk.ext hZ hb'
          clear hV3 hN' hb'
          refine Dr.plan4_e rfl (by rfl) (fun K hK => ?_)
          go_wp2_with fail
          obtain ⟨V4, T, hV4, hN', hT, hb'⟩ := mkd V3 (rwC fun _ => 0) 78
          refine hK _ _ (Dr.Bel.of (ext_alloc _ _)) ?_; clear hK K
          rw [hV4, hN']
          have lT : X ≤ T := by have := hx.size; omega
          have hx := hx.trans (hb'.mono (by have := hx.size; omega))
          have hB := Blk.ext hB hb'
          have hH := Blk.ext hH hb'
          have hZ := Blk.ext hZ hb'
          have hU := Blk.ext hU hb'
          clear hV4 hN' hb'
          with_reducible refine Dr.plan4_q (l := [_]) (by with_unfolding_all exact rfl) (fun K hK => ?_)
          iterate 1 (go_big_quiet_step (fail))
          refine wpQuiet_nil (hK _ ?_); clear hK K
          refine Dr.plan4_e rfl (by rfl) (fun K hK => ?_)
          go_wp2_with fail
          obtain ⟨V5, F, hV5, hN', hF, hb'⟩ := mkd V4 [.slice (some ⟨p, 0, none⟩) 1 1, .slice none 0 0, .int .i64 1000, .int .i64 1000, .int .i64 2000, .slice (some ⟨L, 0, none⟩) 1 cL, .slice (some ⟨T, 0, none⟩) 1 1, .slice (some ⟨H, 0, none⟩) 0 0, .slice (some ⟨U, 0, none⟩) 0 0] 99
          refine hK _ _ (Dr.Bel.of (ext_alloc _ _)) ?_; clear hK K
          rw [hV5, hN']
          have lF : X ≤ F := by have := hx.size; omega
          have hx := hx.trans (hb'.mono (by have := hx.size; omega))
          have hB := Blk.ext hB hb'
          have hH := Blk.ext hH hb'
          have hZ := Blk.ext hZ hb'
          have hU := Blk.ext hU hb'
          have hT := Blk.ext hT hb'
          clear hV5 hN' hb'
          refine Dr.plan4_done (tl := [_]) rfl ?_
          have z0 : V5.cell? ⟨Z, 0, none⟩ = _ := hZ.cell (i := 0) rfl
          have z1 := hZ.free 0
          go_wp2
          go_meet
          case rel => exact ⟨Z, F, T, H, U, rfl, hZ.set 0 _, hF.other (ne_blk hZ hF) _, hT.other (ne_blk hZ hT) _, lT, lZ, hB.other (ne_blk hZ hB) _, hx.setCell (by exact lZ) _⟩
    · refine Dr.plan4_e rfl (by rfl) (fun K hK => ?_)
      go_wp2_with fail
      obtain ⟨V1, U, hV1, hN', hU, hb'⟩ := mkd V0 [] 106
      refine hK _ _ (Dr.Bel.of (ext_alloc _ _)) ?_; clear hK K
      rw [hV1, hN']
      have lU : X ≤ U := by have := hx.size; omega
      have hx := hx.trans (hb'.mono (by have := hx.size; omega))
      have hB := Blk.ext hB hb'
      clear hV1 hN' hb'
      refine Dr.plan4_e3 ?_ ?_ ?_
      · refine Dr.plan4_e rfl (by rfl) (fun K hK => ?_)
        go_wp2_with fail
        obtain ⟨V2, T, hV2, hN', hT, hb'⟩ := mkd V1 (rwC fun _ => 0) 78
        refine hK _ _ (Dr.Bel.of (ext_alloc _ _)) ?_; clear hK K
        rw [hV2, hN']
        have lT : X ≤ T := by have := hx.size; omega
        have hx := hx.trans (hb'.mono (by have := hx.size; omega))
        have hB := Blk.ext hB hb'
        have hU := Blk.ext hU hb'
        clear hV2 hN' hb'
        refine Dr.plan4_e2 ?_ ?_
        · refine Dr.plan4_e rfl (by rfl) (fun K hK => ?_)
          go_wp2_with fail
          obtain ⟨V3, H, hV3, hN', hH, hb'⟩ := mkd V2 [] 110
          refine hK _ _ (Dr.Bel.of (ext_alloc _ _)) ?_; clear hK K
          rw [hV3, hN']
          have lH : X ≤ H := by have := hx.size; omega
          have hx := hx.trans (hb'.mono (by have := hx.size; omega))
          have hB := Blk.ext hB hb'
          have hU := Blk.ext hU hb'
          have hT := Blk.ext hT hb'
          clear hV3 hN' hb'
          with_reducible refine Dr.plan4_q (l := [_]) (by with_unfolding_all exact rfl) (fun K hK => ?_)
          iterate 1 (go_big_quiet_step (fail))
          refine wpQuiet_nil (hK _ ?_); clear hK K
          refine Dr.plan4_e2 ?_ ?_
          · refine Dr.plan4_e rfl (by rfl) (fun K hK => ?_)
            go_wp2_with fail
            obtain ⟨V4, F, hV4, hN', hF, hb'⟩ := mkd V3 [.slice (some ⟨p, 0, none⟩) 1 1, .slice none 0 0, .int .i64 1000, .int .i64 1000, .int .i64 2000, .slice (some ⟨L, 0, none⟩) 1 cL, .slice (some ⟨T, 0, none⟩) 1 1, .slice (some ⟨H, 0, none⟩) 0 0, .slice (some ⟨U, 0, none⟩) 0 0] 99
            refine hK _ _ (Dr.Bel.of (ext_alloc _ _)) ?_; clear hK K
            rw [hV4, hN']
            have lF : X ≤ F := by have := hx.size; omega
            have hx := hx.trans (hb'.mono (by have := hx.size; omega))
            have hB := Blk.ext hB hb'
            have hU := Blk.ext hU hb'
            have hT := Blk.ext hT hb'
            have hH := Blk.ext hH hb'
            clear hV4 hN' hb'
            refine Dr.plan4_e rfl (by rfl) (fun K hK => ?_)
            go_wp2_with fail
            obtain ⟨V5, Z, hV5, hN', hZ, hb'⟩ := mkd V4 [.pointer none] 74
            refine hK _ _ (Dr.Bel.of (ext_alloc _ _)) ?_; clear hK K
            rw [hV5, hN']
            have lZ : X ≤ Z := by have := hx.size; omega
            have hx := hx.trans (hb'.mono (by have := hx.size; omega))
            have hB := Blk.ext hB hb'
            have hU := Blk.ext hU hb'
            have hT := Blk.ext hT hb'
            have hH := Blk.ext hH hb'
            have hF := Blk.ext hF hb'
            clear hV5 hN' hb'
            refine Dr.plan4_done (tl := [_]) rfl ?_
            have z0 : V5.cell? ⟨Z, 0, none⟩ = _ := hZ.cell (i := 0) rfl
            have z1 := hZ.free 0
            go_wp2
            go_meet
            case rel => exact ⟨Z, F, T, H, U, rfl, hZ.set 0 _, hF.other (ne_blk hZ hF) _, hT.other (ne_blk hZ hT) _, lT, lZ, hB.other (ne_blk hZ hB) _, hx.setCell (by exact lZ) _⟩
          · refine Dr.plan4_e rfl (by rfl) (fun K hK => ?_)
            go_wp2_with fail
            obtain ⟨V4, Z, hV4, hN', hZ, hb'⟩ := mkd V3 [.pointer none] 74
            refine hK _ _ (Dr.Bel.of (ext_alloc _ _)) ?_; clear hK K
            rw [hV4, hN']
            have lZ : X ≤ Z := by have := hx.size; omega
            have hx := hx.trans (hb'.mono (by have := hx.size; omega))
            have hB := Blk.ext hB hb'
            have hU := Blk.ext hU hb'
            have hT := Blk.ext hT hb'
            have hH := Blk.ext hH hb'
            clear hV4 hN' hb'
            refine Dr.plan4_e rfl (by rfl) (fun K hK => ?_)
            go_wp2_with fail
            obtain ⟨V5, F, hV5, hN', hF, hb'⟩ := mkd V4 [.slice (some ⟨p, 0, none⟩) 1 1, .slice none 0 0, .int .i64 1000, .int .i64 1000, .int .i64 2000, .slice (some ⟨L, 0, none⟩) 1 cL, .slice (some ⟨T, 0, none⟩) 1 1, .slice (some ⟨H, 0, none⟩) 0 0, .slice (some ⟨U, 0, none⟩) 0 0] 99
            refine hK _ _ (Dr.Bel.of (ext_alloc _ _)) ?_; clear hK K
            rw [hV5, hN']
            have lF : X ≤ F := by have := hx.size; omega
            have hx := hx.trans (hb'.mono (by have := hx.size; omega))
            have hB := Blk.ext hB hb'
            have hU := Blk.ext hU hb'
            have hT := Blk.ext hT hb'
            have hH := Blk.ext hH hb'
            have hZ := Blk.ext hZ hb'
            clear hV5 hN' hb'
            refine Dr.plan4_done (tl := [_]) rfl ?_
            have z0 : V5.cell? ⟨Z, 0, none⟩ = _ := hZ.cell (i := 0) rfl
            have z1 := hZ.free 0
            go_wp2
            go_meet
            case rel => exact ⟨Z, F, T, H, U, rfl, hZ.set 0 _, hF.other (ne_blk hZ hF) _, hT.other (ne_blk hZ hT) _, lT, lZ, hB.other (ne_blk hZ hB) _, hx.setCell (by exact lZ) _⟩
        · refine Dr.plan4_e rfl (by rfl) (fun K hK => ?_)
          go_wp2_with fail
          obtain ⟨V3, Z, hV3, hN', hZ, hb'⟩ := mkd V2 [.pointer none] 74
          refine hK _ _ (Dr.Bel.of (ext_alloc _ _)) ?_; clear hK K
          rw [hV3, hN']
          have lZ : X ≤ Z := by have := hx.size; omega
          have hx := hx.trans (hb'.mono (by have := hx.size; omega))
          have hB := Blk.ext hB hb'
          have hU := Blk.ext hU hb'
          have hT := Blk.ext hT hb'
          clear hV3 hN' hb'
          refine Dr.plan4_e rfl (by rfl) (fun K hK => ?_)
          go_wp2_with fail
          obtain ⟨V4, H, hV4, hN', hH, hb'⟩ := mkd V3 [] 110
          refine hK _ _ (Dr.Bel.of (ext_alloc _ _)) ?_; clear hK K
          rw [hV4, hN']
          have lH : X ≤ H := by have := hx.size; omega
          have hx := hx.trans (hb'.mono (by have := hx.size; omega))
          have hB := Blk.ext hB hb'
          have hU := Blk.ext hU hb'
          have hT := Blk.ext hT hb'
          have hZ := Blk.ext hZ hb'
          clear hV4 hN' hb'
          with_reducible refine Dr.plan4_q (l := [_]) (by with_unfolding_all exact rfl) (fun K hK => ?_)
          iterate 1 (go_big_quiet_step (fail))
          refine wpQuiet_nil (hK _ ?_); clear hK K
          refine Dr.plan4_e rfl (by rfl) (fun K hK => ?_)
          go_wp2_with fail
          obtain ⟨V5, F, hV5, hN', hF, hb'⟩ := mkd V4 [.slice (some ⟨p, 0, none⟩) 1 1, .slice none 0 0, .int .i64 1000, .int .i64 1000, .int .i64 2000, .slice (some ⟨L, 0, none⟩) 1 cL, .slice (some ⟨T, 0, none⟩) 1 1, .slice (some ⟨H, 0, none⟩) 0 0, .slice (some ⟨U, 0, none⟩) 0 0] 99
          refine hK _ _ (Dr.Bel.of (ext_alloc _ _)) ?_; clear hK K
          rw [hV5, hN']
          have lF : X ≤ F := by have := hx.size; omega
          have hx := hx.trans (hb'.mono (by have := hx.size; omega))
          have hB := Blk.ext hB hb'
          have hU := Blk.ext hU hb'
          have hT := Blk.ext hT hb'
          have hZ := Blk.ext hZ hb'
          have hH := Blk.ext hH hb'
          clear hV5 hN' hb'
          refine Dr.plan4_done (tl := [_]) rfl ?_
          have z0 : V5.cell? ⟨Z, 0, none⟩ = _ := hZ.cell (i := 0) rfl
          have z1 := hZ.free 0
          go_wp2
          go_meet
          case rel => exact ⟨Z, F, T, H, U, rfl, hZ.set 0 _, hF.other (ne_blk hZ hF) _, hT.other (ne_blk hZ hT) _, lT, lZ, hB.other (ne_blk hZ hB) _, hx.setCell (by exact lZ) _⟩
      · refine Dr.plan4_e rfl (by rfl) (fun K hK => ?_)
        go_wp2_with fail
        obtain ⟨V2, H, hV2, hN', hH, hb'⟩ := mkd V1 [] 110
        refine hK _ _ (Dr.Bel.of (ext_alloc _ _)) ?_; clear hK K
        rw [hV2, hN']
        have lH : X ≤ H := by have := hx.size; omega
        have hx := hx.trans (hb'.mono (by have := hx.size; omega))
        have hB := Blk.ext hB hb'
        have hU := Blk.ext hU hb'
        clear hV2 hN' hb'
        refine Dr.plan4_e2 ?_ ?_
        · refine Dr.plan4_e rfl (by rfl) (fun K hK => ?_)
          go_wp2_with fail
          obtain ⟨V3, T, hV3, hN', hT, hb'⟩ := mkd V2 (rwC fun _ => 0) 78
          refine hK _ _ (Dr.Bel.of (ext_alloc _ _)) ?_; clear hK K
          rw [hV3, hN']
          have lT : X ≤ T := by have := hx.size; omega
          have hx := hx.trans (hb'.mono (by have := hx.size; omega))
          have hB := Blk.ext hB hb'
          have hU := Blk.ext hU hb'
          have hH := Blk.ext hH hb'
          clear hV3 hN' hb'
          with_reducible refine Dr.plan4_q (l := [_]) (by with_unfolding_all exact rfl) (fun K hK => ?_)
          iterate 1 (go_big_quiet_step (fail))
          refine wpQuiet_nil (hK _ ?_); clear hK K
          refine Dr.plan4_e2 ?_ ?_
          · refine Dr.plan4_e rfl (by rfl) (fun K hK => ?_)
            go_wp2_with fail
            obtain ⟨V4, F, hV4, hN', hF, hb'⟩ := mkd V3 [.slice (some ⟨p, 0, none⟩) 1 1, .slice none 0 0, .int .i64 1000, .int .i64 1000, .int .i64 2000, .slice (some ⟨L, 0, none⟩) 1 cL, .slice (some ⟨T, 0, none⟩) 1 1, .slice (some ⟨H, 0, none⟩) 0 0, .slice (some ⟨U, 0, none⟩) 0 0] 99
            refine hK _ _ (Dr.Bel.of (ext_alloc _ _)) ?_; clear hK K
            rw [hV4, hN']
            have lF : X ≤ F := by have := hx.size; omega
            have hx := hx.trans (hb'.mono (by have := hx.size; omega))
            have hB := Blk.ext hB hb'
            have hU := Blk.ext hU hb'
            have hH := Blk.ext hH hb'
            have hT := Blk.ext hT hb'
            clear hV4 hN' hb'
            refine Dr.plan4_e rfl (by rfl) (fun K hK => ?_)
            go_wp2_with fail
            obtain ⟨V5, Z, hV5, hN', hZ, hb'⟩ := mkd V4 [.pointer none] 74
            refine hK _ _ (Dr.Bel.of (ext_alloc _ _)) ?_; clear hK K
            rw [hV5, hN']
            have lZ : X ≤ Z := by have := hx.size; omega
            have hx := hx.trans (hb'.mono (by have := hx.size; omega))
            have hB := Blk.ext hB hb'
            have hU := Blk.ext hU hb'
            have hH := Blk.ext hH hb'
            have hT := Blk.ext hT hb'
            have hF := Blk.ext hF hb'
            clear hV5 hN' hb'
            refine Dr.plan4_done (tl := [_]) rfl ?_
            have z0 : V5.cell? ⟨Z, 0, none⟩ = _ := hZ.cell (i := 0) rfl
            have z1 := hZ.free 0
            go_wp2
            go_meet
            case rel => exact ⟨Z, F, T, H, U, rfl, hZ.set 0 _, hF.other (ne_blk hZ hF) _, hT.other (ne_blk hZ hT) _, lT, lZ, hB.other (ne_blk hZ hB) _, hx.setCell (by exact lZ) _⟩
          · refine Dr.plan4_e rfl (by rfl) (fun K hK => ?_)
            go_wp2_with fail
            obtain ⟨V4, Z, hV4, hN', hZ, hb'⟩ := mkd V3 [.pointer none] 74
            refine hK _ _ (Dr.Bel.of (ext_alloc _ _)) ?_; clear hK K
            rw [hV4, hN']
            have lZ : X ≤ Z := by have := hx.size; omega
            have hx := hx.trans (hb'.mono (by have := hx.size; omega))
            have hB := Blk.ext hB hb'
            have hU := Blk.ext hU hb'
            have hH := Blk.ext hH hb'
            have hT := Blk.ext hT hb'
            clear hV4 hN' hb'
            refine Dr.plan4_e rfl (by rfl) (fun K hK => ?_)
            go_wp2_with fail
            obtain ⟨V5, F, hV5, hN', hF, hb'⟩ := mkd V4 [.slice (some ⟨p, 0, none⟩) 1 1, .slice none 0 0, .int .i64 1000, .int .i64 1000, .int .i64 2000, .slice (some ⟨L, 0, none⟩) 1 cL, .slice (some ⟨T, 0, none⟩) 1 1, .slice (some ⟨H, 0, none⟩) 0 0, .slice (some ⟨U, 0, none⟩) 0 0] 99
            refine hK _ _ (Dr.Bel.of (ext_alloc _ _)) ?_; clear hK K
            rw [hV5, hN']
            have lF : X ≤ F := by have := hx.size; omega
            have hx := hx.trans (hb'.mono (by have := hx.size; omega))
            have hB := Blk.ext hB hb'
            have hU := Blk.ext hU hb'
            have hH := Blk.ext hH hb'
            have hT := Blk.ext hT hb'
            have hZ := Blk.ext hZ hb'
            clear hV5 hN' hb'
            refine Dr.plan4_done (tl := [_]) rfl ?_
            have z0 : V5.cell? ⟨Z, 0, none⟩ = _ := hZ.cell (i := 0) rfl
            have z1 := hZ.free 0
            go_wp2
            go_meet
            case rel => exact ⟨Z, F, T, H, U, rfl, hZ.set 0 _, hF.other (ne_blk hZ hF) _, hT.other (ne_blk hZ hT) _, lT, lZ, hB.other (ne_blk hZ hB) _, hx.setCell (by exact lZ) _⟩
        · refine Dr.plan4_e rfl (by rfl) (fun K hK => ?_)
          go_wp2_with fail
          obtain ⟨V3, Z, hV3, hN', hZ, hb'⟩ := mkd V2 [.pointer none] 74
          refine hK _ _ (Dr.Bel.of (ext_alloc _ _)) ?_; clear hK K
          rw [hV3, hN']
          have lZ : X ≤ Z := by have := hx.size; omega
          have hx := hx.trans (hb'.mono (by have := hx.size; omega))
          have hB := Blk.ext hB hb'
          have hU := Blk.ext hU hb'
          have hH := Blk.ext hH hb'
          clear hV3 hN' hb'
          refine Dr.plan4_e rfl (by rfl) (fun K hK => ?_)
          go_wp2_with fail
          obtain ⟨V4, T, hV4, hN', hT, hb'⟩ := mkd V3 (rwC fun _ => 0) 78
          refine hK _ _ (Dr.Bel.of (ext_alloc _ _)) ?_; clear hK K
          rw [hV4, hN']
          have lT : X ≤ T := by have := hx.size; omega
          have hx := hx.trans (hb'.mono (by have := hx.size; omega))
          have hB := Blk.ext hB hb'
          have hU := Blk.ext hU hb'
          have hH := Blk.ext hH hb'
          have hZ := Blk.ext hZ hb'
          clear hV4 hN' hb'
          with_reducible refine Dr.plan4_q (l := [_]) (by with_unfolding_all exact rfl) (fun K hK => ?_)
          iterate 1 (go_big_quiet_step (fail))
          refine wpQuiet_nil (hK _ ?_); clear hK K
          refine Dr.plan4_e rfl (by rfl) (fun K hK => ?_)
          go_wp2_with fail
          obtain ⟨V5, F, hV5, hN', hF, hb'⟩ := mkd V4 [.slice (some ⟨p, 0, none⟩) 1 1, .slice none 0 0, .int .i64 1000, .int .i64 1000, .int .i64 2000, .slice (some ⟨L, 0, none⟩) 1 cL, .slice (some ⟨T, 0, none⟩) 1 1, .slice (some ⟨H, 0, none⟩) 0 0, .slice (some ⟨U, 0, none⟩) 0 0] 99
          refine hK _ _ (Dr.Bel.of (ext_alloc _ _)) ?_; clear hK K
          rw [hV5, hN']
          have lF : X ≤ F := by have := hx.size; omega
          have hx := hx.trans (hb'.mono (by have := hx.size; omega))
          have hB := Blk.ext hB hb'
          have hU := Blk.ext hU hb'
          have hH := Blk.ext hH hb'
          have hZ := Blk.ext hZ hb'
          have hT := Blk.ext hT hb'
          clear hV5 hN' hb'
          refine Dr.plan4_done (tl := [_]) rfl ?_
          have z0 : V5.cell? ⟨Z, 0, none⟩ = _ := hZ.cell (i := 0) rfl
          have z1 := hZ.free 0
          go_wp2
          go_meet
          case rel => exact ⟨Z, F, T, H, U, rfl, hZ.set 0 _, hF.other (ne_blk hZ hF) _, hT.other (ne_blk hZ hT) _, lT, lZ, hB.other (ne_blk hZ hB) _, hx.setCell (by exact lZ) _⟩
      · refine Dr.plan4_e rfl (by rfl) (fun K hK => ?_)
        go_wp2_with fail
        obtain ⟨V2, Z, hV2, hN', hZ, hb'⟩ := mkd V1 [.pointer none] 74
        refine hK _ _ (Dr.Bel.of (ext_alloc _ _)) ?_; clear hK K
        rw [hV2, hN']
        have lZ : X ≤ Z := by have := hx.size; omega
        have hx := hx.trans (hb'.mono (by have := hx.size; omega))
        have hB := Blk.ext hB hb'
        have hU := Blk.ext hU hb'
        clear hV2 hN' hb'
        refine Dr.plan4_e2 ?_ ?_
        · refine Dr.plan4_e rfl (by rfl) (fun K hK => ?_)
          go_wp2_with fail
          obtain ⟨V3, T, hV3, hN', hT, hb'⟩ := mkd V2 (rwC fun _ => 0) 78
          refine hK _ _ (Dr.Bel.of (ext_alloc _ _)) ?_; clear hK K
          rw [hV3, hN']
          have lT : X ≤ T := by have := hx.size; omega
          have hx := hx.trans (hb'.mono (by have := hx.size; omega))
          have hB := Blk.ext hB hb'
          have hU := Blk.ext hU hb'
          have hZ := Blk.ext hZ hb'
          clear hV3 hN' hb'
          refine Dr.plan4_e rfl (by rfl) (fun K hK => ?_)
          go_wp2_with fail
          obtain ⟨V4, H, hV4, hN', hH, hb'⟩ := mkd V3 [] 110
          refine hK _ _ (Dr.Bel.of (ext_alloc _ _)) ?_; clear hK K
          rw [hV4, hN']
          have lH : X ≤ H := by have := hx.size; omega
          have hx := hx.trans (hb'.mono (by have := hx.size; omega))
          have hB := Blk.ext hB hb'
          have hU := Blk.ext hU hb'
          have hZ := Blk.ext hZ hb'
          have hT := Blk.ext hT hb'
          clear hV4 hN' hb'
          with_reducible refine Dr.plan4_q (l := [_]) (by with_unfolding_all exact rfl) (fun K hK => ?_)
          iterate 1 (go_big_quiet_step (fail))
          refine wpQuiet_nil (hK _ ?_); clear hK K
          refine Dr.plan4_e rfl (by rfl) (fun K hK => ?_)
          go_wp2_with fail
          obtain ⟨V5, F, hV5, hN', hF, hb'⟩ := mkd V4 [.slice (some ⟨p, 0, none⟩) 1 1, .slice none 0 0, .int .i64 1000, .int .i64 1000, .int .i64 2000, .slice (some ⟨L, 0, none⟩) 1 cL, .slice (some ⟨T, 0, none⟩) 1 1, .slice (some ⟨H, 0, none⟩) 0 0, .slice (some ⟨U, 0, none⟩) 0 0] 99
          refine hK _ _ (Dr.Bel.of (ext_alloc _ _)) ?_; clear hK K
          rw [hV5, hN']
          have lF : X ≤ F := by have := hx.size; omega
          have hx := hx.trans (hb'.mono (by have := hx.size; omega))
          have hB := Blk.ext hB hb'
          have hU := Blk.ext hU hb'
          have hZ := Blk.ext hZ hb'
          have hT := Blk.ext hT hb'
          have hH := Blk.ext hH hb'
          clear hV5 hN' hb'
          refine Dr.plan4_done (tl := [_]) rfl ?_
          have z0 : V5.cell? ⟨Z, 0, none⟩ = _ := hZ.cell (i := 0) rfl
          have z1 := hZ.free 0
          go_wp2
          go_meet
          case rel => exact ⟨Z, F, T, H, U, rfl, hZ.set 0 _, hF.other (ne_blk hZ hF) _, hT.other (ne_blk hZ hT) _, lT, lZ, hB.other (ne_blk hZ hB) _, hx.setCell (by exact lZ) _⟩
        · refine Dr.plan4_e rfl (by rfl) (fun K hK => ?_)
          go_wp2_with fail
          obtain ⟨V3, H, hV3, hN', hH, hb'⟩ := mkd V2 [] 110
          refine hK _ _ (Dr.Bel.of (ext_alloc _ _)) ?_; clear hK K
          rw [hV3, hN']
          have lH : X ≤ H := by have := hx.size; omega
          have hx := hx.trans (hb'.mono (by have := hx.size; omega))
          have hB := Blk.ext hB hb'
          have hU := Blk.ext hU hb'
          have hZ := Blk.ext hZ hb'
          clear hV3 hN' hb'
          refine Dr.plan4_e rfl (by rfl) (fun K hK => ?_)
          go_wp2_with fail
          obtain ⟨V4, T, hV4, hN', hT, hb'⟩ := mkd V3 (rwC fun _ => 0) 78
          refine hK _ _ (Dr.Bel.of (ext_alloc _ _)) ?_; clear hK K
          rw [hV4, hN']
          have lT : X ≤ T := by have := hx.size; omega
          have hx := hx.trans (hb'.mono (by have := hx.size; omega))
          have hB := Blk.ext hB hb'
          have hU := Blk.ext hU hb'
          have hZ := Blk.ext hZ hb'
          have hH := Blk.ext hH hb'
          clear hV4 hN' hb'
          with_reducible refine Dr.plan4_q (l := [_]) (by with_unfolding_all exact rfl) (fun K hK => ?_)
          iterate 1 (go_big_quiet_step (fail))
          refine wpQuiet_nil (hK _ ?_); clear hK K
          refine Dr.plan4_e rfl (by rfl) (fun K hK => ?_)
          go_wp2_with fail
          obtain ⟨V5, F, hV5, hN', hF, hb'⟩ := mkd V4 [.slice (some ⟨p, 0, none⟩) 1 1, .slice none 0 0, .int .i64 1000, .int .i64 1000, .int .i64 2000, .slice (some ⟨L, 0, none⟩) 1 cL, .slice (some ⟨T, 0, none⟩) 1 1, .slice (some ⟨H, 0, none⟩) 0 0, .slice (some ⟨U, 0, none⟩) 0 0] 99
          refine hK _ _ (Dr.Bel.of (ext_alloc _ _)) ?_; clear hK K
          rw [hV5, hN']
          have lF : X ≤ F := by have := hx.size; omega
          have hx := hx.trans (hb'.mono (by have := hx.size; omega))
          have hB := Blk.ext hB hb'
          have hU := Blk.ext hU hb'
          have hZ := Blk.ext hZ hb'
          have hH := Blk.ext hH hb'
          have hT := Blk.ext hT hb'
          clear hV5 hN' hb'
          refine Dr.plan4_done (tl := [_]) rfl ?_
          have z0 : V5.cell? ⟨Z, 0, none⟩ = _ := hZ.cell (i := 0) rfl
          have z1 := hZ.free 0
          go_wp2
          go_meet
          case rel => exact ⟨Z, F, T, H, U, rfl, hZ.set 0 _, hF.other (ne_blk hZ hF) _, hT.other (ne_blk hZ hT) _, lT, lZ, hB.other (ne_blk hZ hB) _, hx.setCell (by exact lZ) _⟩
    · refine Dr.plan4_e rfl (by rfl) (fun K hK => ?_)
      go_wp2_with fail
      obtain ⟨V1, Z, hV1, hN', hZ, hb'⟩ := mkd V0 [.pointer none] 74
      refine hK _ _ (Dr.Bel.of (ext_alloc _ _)) ?_; clear hK K
      rw [hV1, hN']
      have lZ : X ≤ Z := by have := hx.size; omega
      have hx := hx.trans (hb'.mono (by have := hx.size; omega))
      have hB := Blk.ext hB hb'
      clear hV1 hN' hb'
      refine Dr.plan4_e3 ?_ ?_ ?_
      · refine Dr.plan4_e rfl (by rfl) (fun K hK => ?_)
        go_wp2_with fail
        obtain ⟨V2, T, hV2, hN', hT, hb'⟩ := mkd V1 (rwC fun _ => 0) 78
        refine hK _ _ (Dr.Bel.of (ext_alloc _ _)) ?_; clear hK K
        rw [hV2, hN']
        have lT : X ≤ T := by have := hx.size; omega
        have hx := hx.trans (hb'.mono (by have := hx.size; omega))
        have hB := Blk.ext hB hb'
        have hZ := Blk.ext hZ hb'
        clear hV2 hN' hb'
        refine Dr.plan4_e2 ?_ ?_
        · refine Dr.plan4_e rfl (by rfl) (fun K hK => ?_)
          go_wp2_with fail
          obtain ⟨V3, H, hV3, hN', hH, hb'⟩ := mkd V2 [] 110
          refine hK _ _ (Dr.Bel.of (ext_alloc _ _)) ?_; clear hK K
          rw [hV3, hN']
          have lH : X ≤ H := by have := hx.size; omega
          have hx := hx.trans (hb'.mono (by have := hx.size; omega))
          have hB := Blk.ext hB hb'
          have hZ := Blk.ext hZ hb'
          have hT := Blk.ext hT hb'
          clear hV3 hN' hb'
          refine Dr.plan4_e rfl (by rfl) (fun K hK => ?_)
          go_wp2_with fail
          obtain ⟨V4, U, hV4, hN', hU, hb'⟩ := mkd V3 [] 106
          refine hK _ _ (Dr.Bel.of (ext_alloc _ _)) ?_; clear hK K
          rw [hV4, hN']
          have lU : X ≤ U := by have := hx.size; omega
          have hx := hx.trans (hb'.mono (by have := hx.size; omega))
          have hB := Blk.ext hB hb'
          have hZ := Blk.ext hZ hb'
          have hT := Blk.ext hT hb'
          have hH := Blk.ext hH hb'
          clear hV4 hN' hb'
          with_reducible refine Dr.plan4_q (l := [_]) (by with_unfolding_all exact rfl) (fun K hK => ?_)
          iterate 1 (go_big_quiet_step (fail))
          refine wpQuiet_nil (hK _ ?_); clear hK K
          refine Dr.plan4_e rfl (by rfl) (fun K hK => ?_)
          go_wp2_with fail
          obtain ⟨V5, F, hV5, hN', hF, hb'⟩ := mkd V4 [.slice (some ⟨p, 0, none⟩) 1 1, .slice none 0 0, .int .i64 1000, .int .i64 1000, .int .i64 2000, .slice (some ⟨L, 0, none⟩) 1 cL, .slice (some ⟨T, 0, none⟩) 1 1, .slice (some ⟨H, 0, none⟩) 0 0, .slice (some ⟨U, 0, none⟩) 0 0] 99
          refine hK _ _ (Dr.Bel.of (ext_alloc _ _)) ?_; clear hK K
          rw [hV5, hN']
          have lF : X ≤ F := by have := hx.size; omega
          have hx := hx.trans (hb'.mono (by have := hx.size; omega))
          have hB := Blk.ext hB hb'
          have hZ := Blk.ext hZ hb'
          have hT := Blk.ext hT hb'
          have hH := Blk.ext hH hb'
          have hU := Blk.ext hU hb'
          clear hV5 hN' hb'
          refine Dr.plan4_done (tl := [_]) rfl ?_
          have z0 : V5.cell? ⟨Z, 0, none⟩ = _ := hZ.cell (i := 0) rfl
          have z1 := hZ.free 0
          go_wp2
          go_meet
          case rel => exact ⟨Z, F, T, H, U, rfl, hZ.set 0 _, hF.other (ne_blk hZ hF) _, hT.other (ne_blk hZ hT) _, lT, lZ, hB.other (ne_blk hZ hB) _, hx.setCell (by exact lZ) _⟩
        · refine Dr.plan4_e rfl (by rfl) (fun K hK => ?_)
          go_wp2_with fail
          obtain ⟨V3, U, hV3, hN', hU, hb'⟩ := mkd V2 [] 106
          refine hK _ _ (Dr.Bel.of (ext_alloc _ _)) ?_; clear hK K
          rw [hV3, hN']
          have lU : X ≤ U := by have := hx.size; omega
          have hx := hx.trans (hb'.mono (by have := hx.size; omega))
          have hB := Blk.ext hB hb'
          have hZ := Blk.ext hZ hb'
          have hT := Blk.ext hT hb'
          clear hV3 hN' hb'
          refine Dr.plan4_e rfl (by rfl) (fun K hK => ?_)
          go_wp2_with fail
          obtain ⟨V4, H, hV4, hN', hH, hb'⟩ := mkd V3 [] 110
          refine hK _ _ (Dr.Bel.of (ext_alloc _ _)) ?_; clear hK K
          rw [hV4, hN']
          have lH : X ≤ H := by have := hx.size; omega
          have hx := hx.trans (hb'.mono (by have := hx.size; omega))
          have hB := Blk.ext hB hb'
          have hZ := Blk.ext hZ hb'
          have hT := Blk.ext hT hb'
          have hU := Blk.ext hU hb'
          clear hV4 hN' hb'
          with_reducible refine Dr.plan4_q (l := [_]) (by with_unfolding_all exact rfl) (fun K hK => ?_)
          iterate 1 (go_big_quiet_step (fail))
          refine wpQuiet_nil (hK _ ?_); clear hK K
          refine Dr.plan4_e rfl (by rfl) (fun K hK => ?_)
          go_wp2_with fail
          obtain ⟨V5, F, hV5, hN', hF, hb'⟩ := mkd V4 [.slice (some ⟨p, 0, none⟩) 1 1, .slice none 0 0, .int .i64 1000, .int .i64 1000, .int .i64 2000, .slice (some ⟨L, 0, none⟩) 1 cL, .slice (some ⟨T, 0, none⟩) 1 1, .slice (some ⟨H, 0, none⟩) 0 0, .slice (some ⟨U, 0, none⟩) 0 0] 99
          refine hK _ _ (Dr.Bel.of (ext_alloc _ _)) ?_; clear hK K
          rw [hV5, hN']
          have lF : X ≤ F := by have := hx.size; omega
          have hx := hx.trans (hb'.mono (by have := hx.size; omega))
          have hB := Blk.ext hB hb'
          have hZ := Blk.ext hZ hb'
          have hT := Blk.ext hT hb'
          have hU := Blk.ext hU hb'
          have hH := Blk.ext hH hb'
          clear hV5 hN' hb'
          refine Dr.plan4_done (tl := [_]) rfl ?_
          have z0 : V5.cell? ⟨Z, 0, none⟩ = _ := hZ.cell (i := 0) rfl
          have z1 := hZ.free 0
          go_wp2
          go_meet
          case rel => exact ⟨Z, F, T, H, U, rfl, hZ.set 0 _, hF.other (ne_blk hZ hF) _, hT.other (ne_blk hZ hT) _, lT, lZ, hB.other (ne_blk hZ hB) _, hx.setCell (by exact lZ) _⟩
      · refine Dr.plan4_e rfl (by rfl) (fun K hK => ?_)
        go_wp2_with fail
        obtain ⟨V2, H, hV2, hN', hH, hb'⟩ := mkd V1 [] 110
        refine hK _ _ (Dr.Bel.of (ext_alloc _ _)) ?_; clear hK K
        rw [hV2, hN']
        have lH : X ≤ H := by have := hx.size; omega
        have hx := hx.trans (hb'.mono (by have := hx.size; omega))
        have hB := Blk.ext hB hb'
        have hZ := Blk.ext hZ hb'
        clear hV2 hN' hb'
        refine Dr.plan4_e2 ?_ ?_
        · refine Dr.plan4_e rfl (by rfl) (fun K hK => ?_)
          go_wp2_with fail
          obtain ⟨V3, T, hV3, hN', hT, hb'⟩ := mkd V2 (rwC fun _ => 0) 78
          refine hK _ _ (Dr.Bel.of (ext_alloc _ _)) ?_; clear hK K
          rw [hV3, hN']
          have lT : X ≤ T := by have := hx.size; omega
          have hx := hx.trans (hb'.mono (by have := hx.size; omega))
          have hB := Blk.ext hB hb'
          have hZ := Blk.ext hZ hb'
          have hH := Blk.ext hH hb'
          clear hV3 hN' hb'
          refine Dr.plan4_e rfl (by rfl) (fun K hK => ?_)
          go_wp2_with fail
          obtain ⟨V4, U, hV4, hN', hU, hb'⟩ := mkd V3 [] 106
          refine hK _ _ (Dr.Bel.of (ext_alloc _ _)) ?_; clear hK K
          rw [hV4, hN']
          have lU : X ≤ U := by have := hx.size; omega
          have hx := hx.trans (hb'.mono (by have := hx.size; omega))
          have hB := Blk.ext hB hb'
          have hZ := Blk.ext hZ hb'
          have hH := Blk.ext hH hb'
          have hT := Blk.ext hT hb'
          clear hV4 hN' hb'
          with_reducible refine Dr.plan4_q (l := [_]) (by with_unfolding_all exact rfl) (fun K hK => ?_)
          iterate 1 (go_big_quiet_step (fail))
          refine wpQuiet_nil (hK _ ?_); clear hK K
          refine Dr.plan4_e rfl (by rfl) (fun K hK => ?_)
          go_wp2_with fail
          obtain ⟨V5, F, hV5, hN', hF, hb'⟩ := mkd V4 [.slice (some ⟨p, 0, none⟩) 1 1, .slice none 0 0, .int .i64 1000, .int .i64 1000, .int .i64 2000, .slice (some ⟨L, 0, none⟩) 1 cL, .slice (some ⟨T, 0, none⟩) 1 1, .slice (some ⟨H, 0, none⟩) 0 0, .slice (some ⟨U, 0, none⟩) 0 0] 99
          refine hK _ _ (Dr.Bel.of (ext_alloc _ _)) ?_; clear hK K
          rw [hV5, hN']
          have lF : X ≤ F := by have := hx.size; omega
          have hx := hx.trans (hb'.mono (by have := hx.size; omega))
          have hB := Blk.ext hB hb'
          have hZ := Blk.ext hZ hb'
          have hH := Blk.ext hH hb'
          have hT := Blk.ext hT hb'
          have hU := Blk.ext hU hb'
          clear hV5 hN' hb'
          refine Dr.plan4_done (tl := [_]) rfl ?_
          have z0 : V5.cell? ⟨Z, 0, none⟩ = _ := hZ.cell (i := 0) rfl
          have z1 := hZ.free 0
          go_wp2
          go_meet
          case rel => exact ⟨Z, F, T, H, U, rfl, hZ.set 0 _, hF.other (ne_blk hZ hF) _, hT.other (ne_blk hZ hT) _, lT, lZ, hB.other (ne_blk hZ hB) _, hx.setCell (by exact lZ) _⟩
        · refine Dr.plan4_e rfl (by rfl) (fun K hK => ?_)
          go_wp2_with fail
          obtain ⟨V3, U, hV3, hN', hU, hb'⟩ := mkd V2 [] 106
          refine hK _ _ (Dr.Bel.of (ext_alloc _ _)) ?_; clear hK K
          rw [hV3, hN']
          have lU : X ≤ U := by have := hx.size; omega
          have hx := hx.trans (hb'.mono (by have := hx.size; omega))
          have hB := Blk.ext hB hb'
          have hZ := Blk.ext hZ hb'
          have hH := Blk.ext hH hb'
          clear hV3 hN' hb'
          refine Dr.plan4_e rfl (by rfl) (fun K hK => ?_)
          go_wp2_with fail
          obtain ⟨V4, T, hV4, hN', hT, hb'⟩ := mkd V3 (rwC fun _ => 0) 78
          refine hK _ _ (Dr.Bel.of (ext_alloc _ _)) ?_; clear hK K
          rw [hV4, hN']
          have lT : X ≤ T := by have := hx.size; omega
          have hx := hx.trans (hb'.mono (by have := hx.size; omega))
          have hB := Blk.ext hB hb'
          have hZ := Blk.ext hZ hb'
          have hH := Blk.ext hH hb'
          have hU := Blk.ext hU hb'
          clear hV4 hN' hb'
          with_reducible refine Dr.plan4_q (l := [_]) (by with_unfolding_all exact rfl) (fun K hK => ?_)
          iterate 1 (go_big_quiet_step (fail))
          refine wpQuiet_nil (hK _ ?_); clear hK K
          refine Dr.plan4_e rfl (by rfl) (fun K hK => ?_)
          go_wp2_with fail
          obtain ⟨V5, F, hV5, hN', hF, hb'⟩ := mkd V4 [.slice (some ⟨p, 0, none⟩) 1 1, .slice none 0 0, .int .i64 1000, .int .i64 1000, .int .i64 2000, .slice (some ⟨L, 0, none⟩) 1 cL, .slice (some ⟨T, 0, none⟩) 1 1, .slice (some ⟨H, 0, none⟩) 0 0, .slice (some ⟨U, 0, none⟩) 0 0] 99
          refine hK _ _ (Dr.Bel.of (ext_alloc _ _)) ?_; clear hK K
          rw [hV5, hN']
          have lF : X ≤ F := by have := hx.size; omega
          have hx := hx.trans (hb'.mono (by have := hx.size; omega))
          have hB := Blk.ext hB hb'
          have hZ := Blk.ext hZ hb'
          have hH := Blk.ext hH hb'
          have hU := Blk.ext hU hb'
          have hT := Blk.ext hT hb'
          clear hV5 hN' hb'
          refine Dr.plan4_done (tl := [_]) rfl ?_
          have z0 : V5.cell? ⟨Z, 0, none⟩ = _ := hZ.cell (i := 0) rfl
          have z1 := hZ.free 0
          go_wp2
          go_meet
          case rel => exact ⟨Z, F, T, H, U, rfl, hZ.set 0 _, hF.other (ne_blk hZ hF) _, hT.other (ne_blk hZ hT) _, lT, lZ, hB.other (ne_blk hZ hB) _, hx.setCell (by exact lZ) _⟩
      · refine Dr.plan4_e rfl (by rfl) (fun K hK => ?_)
        go_wp2_with fail
        obtain ⟨V2, U, hV2, hN', hU, hb'⟩ := mkd V1 [] 106
        refine hK _ _ (Dr.Bel.of (ext_alloc _ _)) ?_; clear hK K
        rw [hV2, hN']
        have lU : X ≤ U := by have := hx.size; omega
        have hx := hx.trans (hb'.mono (by have := hx.size; omega))
        have hB := Blk.ext hB hb'
        have hZ := Blk.ext hZ hb'
        clear hV2 hN' hb'
        refine Dr.plan4_e2 ?_ ?_
        · refine Dr.plan4_e rfl (by rfl) (fun K hK => ?_)
          go_wp2_with fail
          obtain ⟨V3, T, hV3, hN', hT, hb'⟩ := mkd V2 (rwC fun _ => 0) 78
          refine hK _ _ (Dr.Bel.of (ext_alloc _ _)) ?_; clear hK K
          rw [hV3, hN']
          have lT : X ≤ T := by have := hx.size; omega
          have hx := hx.trans (hb'.mono (by have := hx.size; omega))
          have hB := Blk.ext hB hb'
          have hZ := Blk.ext hZ hb'
          have hU := Blk.ext hU hb'
          clear hV3 hN' hb'
          refine Dr.plan4_e rfl (by rfl) (fun K hK => ?_)
          go_wp2_with fail
          obtain ⟨V4, H, hV4, hN', hH, hb'⟩ := mkd V3 [] 110
          refine hK _ _ (Dr.Bel.of (ext_alloc _ _)) ?_; clear hK K
          rw [hV4, hN']
          have lH : X ≤ H := by have := hx.size; omega
          have hx := hx.trans (hb'.mono (by have := hx.size; omega))
          have hB := Blk.ext hB hb'
          have hZ := Blk.ext hZ hb'
          have hU := Blk.ext hU hb'
          have hT := Blk.ext hT hb'
          clear hV4 hN' hb'
          with_reducible refine Dr.plan4_q (l := [_]) (by with_unfolding_all exact rfl) (fun K hK => ?_)
          iterate 1 (go_big_quiet_step (fail))
          refine wpQuiet_nil (hK _ ?_); clear hK K
          refine Dr.plan4_e rfl (by rfl) (fun K hK => ?_)
          go_wp2_with fail
          obtain ⟨V5, F, hV5, hN', hF, hb'⟩ := mkd V4 [.slice (some ⟨p, 0, none⟩) 1 1, .slice none 0 0, .int .i64 1000, .int .i64 1000, .int .i64 2000, .slice (some ⟨L, 0, none⟩) 1 cL, .slice (some ⟨T, 0, none⟩) 1 1, .slice (some ⟨H, 0, none⟩) 0 0, .slice (some ⟨U, 0, none⟩) 0 0] 99
          refine hK _ _ (Dr.Bel.of (ext_alloc _ _)) ?_; clear hK K
          rw [hV5, hN']
          have lF : X ≤ F := by have := hx.size; omega
          have hx := hx.trans (hb'.mono (by have := hx.size; omega))
          have hB := Blk.ext hB hb'
          have hZ := Blk.ext hZ hb'
          have hU := Blk.ext hU hb'
          have hT := Blk.ext hT hb'
          have hH := Blk.ext hH hb'
          clear hV5 hN' hb'
          refine Dr.plan4_done (tl := [_]) rfl ?_
          have z0 : V5.cell? ⟨Z, 0, none⟩ = _ := hZ.cell (i := 0) rfl
          have z1 := hZ.free 0
          go_wp2
          go_meet
          case rel => exact ⟨Z, F, T, H, U, rfl, hZ.set 0 _, hF.other (ne_blk hZ hF) _, hT.other (ne_blk hZ hT) _, lT, lZ, hB.other (ne_blk hZ hB) _, hx.setCell (by exact lZ) _⟩
        · refine Dr.plan4_e rfl (by rfl) (fun K hK => ?_)
          go_wp2_with fail
          obtain ⟨V3, H, hV3, hN', hH, hb'⟩ := mkd V2 [] 110
          refine hK _ _ (Dr.Bel.of (ext_alloc _ _)) ?_; clear hK K
          rw [hV3, hN']
          have lH : X ≤ H := by have := hx.size; omega
          have hx := hx.trans (hb'.mono (by have := hx.size; omega))
          have hB := Blk.ext hB hb'
          have hZ := Blk.ext hZ hb'
          have hU := Blk.ext hU hb'
          clear hV3 hN' hb'
          refine Dr.plan4_e rfl (by rfl) (fun K hK => ?_)
          go_wp2_with fail
          obtain ⟨V4, T, hV4, hN', hT, hb'⟩ := mkd V3 (rwC fun _ => 0) 78
          refine hK _ _ (Dr.Bel.of (ext_alloc _ _)) ?_; clear hK K
          rw [hV4, hN']
          have lT : X ≤ T := by have := hx.size; omega
          have hx := hx.trans (hb'.mono (by have := hx.size; omega))
          have hB := Blk.ext hB hb'
          have hZ := Blk.ext hZ hb'
          have hU := Blk.ext hU hb'
          have hH := Blk.ext hH hb'
          clear hV4 hN' hb'
          with_reducible refine Dr.plan4_q (l := [_]) (by with_unfolding_all exact rfl) (fun K hK => ?_)
          iterate 1 (go_big_quiet_step (fail))
          refine wpQuiet_nil (hK _ ?_); clear hK K
          refine Dr.plan4_e rfl (by rfl) (fun K hK => ?_)
          go_wp2_with fail
          obtain ⟨V5, F, hV5, hN', hF, hb'⟩ := mkd V4 [.slice (some ⟨p, 0, none⟩) 1 1, .slice none 0 0, .int .i64 1000, .int .i64 1000, .int .i64 2000, .slice (some ⟨L, 0, none⟩) 1 cL, .slice (some ⟨T, 0, none⟩) 1 1, .slice (some ⟨H, 0, none⟩) 0 0, .slice (some ⟨U, 0, none⟩) 0 0] 99
          refine hK _ _ (Dr.Bel.of (ext_alloc _ _)) ?_; clear hK K
          rw [hV5, hN']
          have lF : X ≤ F := by have := hx.size; omega
          have hx := hx.trans (hb'.mono (by have := hx.size; omega))
          have hB := Blk.ext hB hb'
          have hZ := Blk.ext hZ hb'
          have hU := Blk.ext hU hb'
          have hH := Blk.ext hH hb'
          have hT := Blk.ext hT hb'
          clear hV5 hN' hb'
          refine Dr.plan4_done (tl := [_]) rfl ?_
          have z0 : V5.cell? ⟨Z, 0, none⟩ = _ := hZ.cell (i := 0) rfl
          have z1 := hZ.free 0
          go_wp2
          go_meet
          case rel => exact ⟨Z, F, T, H, U, rfl, hZ.set 0 _, hF.other (ne_blk hZ hF) _, hT.other (ne_blk hZ hT) _, lT, lZ, hB.other (ne_blk hZ hB) _, hx.setCell (by exact lZ) _⟩
  case rest =>
    obtain ⟨Z, F, T, H, U, rfl, hZ, hF, hT, lT, lZ, hB, hx⟩ := hcut
    have hLX : L < X := by have := LdB.lt hL rfl; omega
    have hLc := hL.under hx hLX
    have b5 : wc.cell? ⟨X, 5, none⟩ = _ := hB.cell (i := 5) rfl
    have hTs := Blk.lt hT
    have hFs := Blk.lt hF
    have hZs := Blk.lt hZ
    have hTF := ne_blk hT hF
    have hTZ := ne_blk hT hZ
    clear hB k1 k2 k3 hL
    go_upto_block 0 with fail
    go_wp2
    clear b5
    go_loopw [4, 5, 6, 32] (fun _ _ _ i wr => (i = .int .i64 0 ∧ wc = wr) ∨ (i = .int .i64 1 ∧ Blk wr Z 74 [.pointer (some ⟨F, 0, none⟩)] ∧ Blk wr F 99 [.slice (some ⟨p, 0, none⟩) 1 1, .slice none 0 0, .int .i64 1000, .int .i64 1000, .int .i64 2000, .slice (some ⟨L, 0, none⟩) 1 cL, .slice (some ⟨T, 0, none⟩) 1 1, .slice (some ⟨H, 0, none⟩) 0 0, .slice (some ⟨U, 0, none⟩) 0 0] ∧ RwB wr T (upd (fun _ => 0) 0 216000) ∧ Below X w wr)) (fun _ _ _ i _ => 1 - (intOf i).toNat)
    case atStart => exact .inl ⟨rfl, rfl⟩
    case round =>
      rcases hrel with ⟨rfl, rfl⟩ | ⟨rfl, hZ2, hF2, hT2, hx2⟩
      · have l0 : wc.cell? ⟨L, 0, none⟩ = _ := hLc.cell (i := 0) rfl
        have l1 : wc.cell? ⟨L, 1, none⟩ = _ := hLc.cell (i := 1) rfl
        have l2 : wc.cell? ⟨L, 2, none⟩ = _ := hLc.cell (i := 2) rfl
        have l3 : wc.cell? ⟨L, 3, none⟩ = _ := hLc.cell (i := 3) rfl
        have l4 : wc.cell? ⟨L, 4, none⟩ = _ := hLc.cell (i := 4) rfl
        go_upto_region 5 with fail
        obtain ⟨V1, G, hW1, hG, hGB, hb1⟩ := mkd wc [.int .i64 (-1), .int .i64 0, .int .u8 2, .int .i64 0, .int .i64 n] 73
        rw [hW1, hG]
        have hZ := hZ.ext hb1
        have hF := hF.ext hb1
        have hT : RwB V1 T _ := Blk.ext hT hb1
        have hx := hx.trans (hb1.mono (by have := hx.size; omega))
        clear hW1 hG hb1 l0 l1 l2 l3 l4 hLc
        go_upto_region 6 with fail
        obtain ⟨V2, E, hW2, hE, hEB, hb2⟩ := mkd V1 (rwC fun _ => 0) 78
        have hzl : (rwC fun _ => 0).toArray = #[.int .i64 0, .int .i64 0, .int .i64 0, .int .i64 0, .int .i64 0, .int .i64 0, .int .i64 0, .int .i64 0, .int .i64 0, .int .i64 0, .int .i64 0, .int .i64 0, .int .i64 0, .int .i64 0, .int .i64 0, .int .i64 0, .int .i64 0, .int .i64 0, .int .i64 0, .int .i64 0, .int .i64 0] := rwC_lit _
        rw [hzl] at hW2
        rw [hW2, hE]
        have hTE : T < E := by have := Blk.lt hT; omega
        have hZE : Z < E := by have := Blk.lt hZ; omega
        have hFE : F < E := by have := Blk.lt hF; omega
        have hGE : G < E := by have := Blk.lt hGB; omega
        have hEX : X ≤ E := by omega
        have hZ := hZ.ext hb2
        have hF := hF.ext hb2
        have hT : RwB V2 T _ := Blk.ext hT hb2
        have hGB := hGB.ext hb2
        have hx := hx.trans (hb2.mono (by have := hx.size; omega))
        clear hW2 hE hb2 hzl
        have e0 : V2.cell? ⟨E, 0, none⟩ = some (.int .i64 0) := RwB.cell hEB (i := 0) (by omega)
        have f0 := Blk.free hEB 0
        go_upto_region 7 with fail
        have hE3 : RwB (V2.setCell ⟨E, 0, none⟩ (.int .i64 216000)) E (upd (fun _ => 0) 0 216000) := by
          have := Blk.set hEB 0 (.int .i64 216000)
          rw [rwC_set] at this
          exact this
        have hZ3 := hZ.other (p := ⟨E, 0, none⟩) (show Z ≠ E by omega) (.int .i64 216000)
        have hF3 := hF.other (p := ⟨E, 0, none⟩) (show F ≠ E by omega) (.int .i64 216000)
        have hG3 := hGB.other (p := ⟨E, 0, none⟩) (show G ≠ E by omega) (.int .i64 216000)
        have hT3 : RwB (V2.setCell ⟨E, 0, none⟩ (.int .i64 216000)) T _ := Blk.other (p := ⟨E, 0, none⟩) hT (show T ≠ E by omega) (.int .i64 216000)
        have hx3 := hx.setCell (p := ⟨E, 0, none⟩) hEX (.int .i64 216000)
        generalize V2.setCell ⟨E, 0, none⟩ (.int .i64 216000) = V3 at *
        clear hEB hZ hF hGB hT hx e0 f0
        have z0 : V3.cell? ⟨Z, 0, none⟩ = _ := hZ3.cell (i := 0) rfl
        have g0 : V3.cell? ⟨G, 0, none⟩ = _ := hG3.cell (i := 0) rfl
        have g1 : V3.cell? ⟨G, 1, none⟩ = _ := hG3.cell (i := 1) rfl
        have CP := Lib.hid (put_any F T _ (fun _ => 0) (upd (fun _ => 0) 0 216000) V3 hF3 rfl hT3 (by simp) (fun i => by unfold upd; by_cases e : i = 0 <;> simp [e]))
        go_wp2_with (first | refine ld_row rfl _ rfl E 0 rfl (upd (fun _ => 0) 0 216000) hE3.range ?_)
        refine CP.out.mono ?_; rintro e V4 ⟨rfl, hT4, hb4⟩
        clear z0 g0 g1 CP
        have hZ4 := hb4.blk hZ3 (by simp; omega)
        have hF4 := hb4.blk hF3 (by simp; omega)
        have hx4 := hx3.trans (Dr.Bel.old (n := X) hb4 (by have := hx3.size; omega) (by simp; exact lT))
        have hT5 : RwB V4 T (upd (fun _ => 0) 0 216000) := Eq.mp (congrArg (fun l => Blk _ _ 78 l) (rwC_congr fun i hi => by simp [sumR, isum])) hT4
        go_wp2
        go_roundw
        case rel => exact .inr ⟨rfl, hZ4, hF4, hT5, hx4⟩
        case measure => simp [intOf]
      · have z0 : wr.cell? ⟨Z, 0, none⟩ = _ := hZ2.cell (i := 0) rfl
        clear hZ hF hT hx hLc
        go_wp2_with fail
        refine (down_any F wr).mono ?_; rintro e V1 ⟨D, rfl, hD, hb1⟩
        clear z0
        have hZ3 := hZ2.ext hb1
        have hF3 := hF2.ext hb1
        have hT3 : RwB V1 T _ := Blk.ext hT2 hb1
        have hx3 := hx2.trans (hb1.mono (by have := hx2.size; omega))
        clear hZ2 hF2 hT2 hx2 hb1
        have eg := enters_of Tryz.func64 (by kernel_rfl) rfl
        unfold Enters at eg
        go_wp2
        generalize ha : Act.mk _ _ = a0
        refine wpIn_wide.1 (range_next (F := Fence.wide) (n := 20) rfl (by omega) (gf := 64) (lb := #[.pointer (some ⟨D, 0, none⟩)]) (by rw [← ha]; rfl) trivial eg
          (down_next Fence.wide 19 trivial rfl D F _ V1 hD hF3 rfl)
          (fun _ _ => trivial) (fun _ _ _ _ _ _ _ _ => trivial) (fun x => x.elim)
          (fun _ W => Below V1.heap.size V1 W) ?own (Below.refl _ _)
          (fun _ _ _ => True) (fun x => x.elim) (fun _ _ x => x.elim) (fun _ _ x => x.elim) ?done)
        case own =>
          rintro pre X1 Y row hbl hg hr
          exact hbl.trans (below_of_grown2 hg (fun r e => (hr r e).1) hbl.size)
        case done =>
          subst ha
          rintro D1 ys W hD1 - hbl hK
          have hZ4 := hZ3.ext hbl
          have hF4 := hF3.ext hbl
          have hT4 : RwB W T _ := Blk.ext hT3 hbl
          have hx4 := hx3.trans (hbl.mono (by have := hx3.size; omega))
          have z0 : W.cell? ⟨Z, 0, none⟩ = _ := hZ4.cell (i := 0) rfl
          go_wp2
          refine ⟨by simp, .inl ⟨_, _, rfl, run_takeDeferred hK, ?_⟩⟩
          refine ⟨.pointer (some ⟨F, 0, none⟩), by simp [results, Tryz.results25, go_sem], F, T, H, U, rfl, ?_, ?_, ?_⟩
          · exact (World.putObj_heap_other (by have := Blk.lt hF3; omega)).trans hF4
          · exact (World.putObj_heap_other (by have := Blk.lt hT3; omega)).trans hT4
          · exact hXe ▸ hx4.trans ⟨rfl, rfl, rfl, by simp, fun k hk => World.putObj_heap_other (by have := hx3.size; omega)⟩
end
end Go.Proofs.YtilkoooahoecfaaGreat.Rg

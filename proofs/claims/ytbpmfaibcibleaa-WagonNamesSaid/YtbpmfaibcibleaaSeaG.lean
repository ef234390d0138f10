/- Walks: packed, Pack, Load. (Printed by mk_seag.py.) -/
import Derived.Test.YtbpmfaibcibleaaSeaF
namespace Go.Wg
open Go.RowKit Go.Bs Go.Pl
/-- a packing that lies in memory newer than w -/
def RowsV (w w' : World) (v : Value) (P : List (List Int)) : Prop :=
  ∃ A c rs, v = .slice A rs.length c ∧ rows rs = P ∧ RwM w' A rs ∧ (∀ k, A.map (·.block) = some k → w.heap.size ≤ k) ∧ ∀ x ∈ rs, ∀ k, x.A.map (·.block) = some k → w.heap.size ≤ k
theorem RowsV.nil (w w' : World) : RowsV w w' (.slice none 0 0) [] := ⟨none, 0, [], rfl, rfl, ⟨Cells.nil, by simp, by simp⟩, by simp, by simp⟩
theorem RowsV.ext {w w' w'' : World} {v : Value} {P : List (List Int)} (h : RowsV w w' v P) (hb : Below w'.heap.size w' w'') : RowsV w w'' v P := by
  obtain ⟨A, c, rs, h1, h2, h3, h4, h5⟩ := h
  exact ⟨A, c, rs, h1, h2, h3.ext hb, h4, h5⟩
theorem RowsV.older {w0 w w' : World} {v : Value} {P : List (List Int)} (h : RowsV w w' v P) (hb : w0.heap.size ≤ w.heap.size) : RowsV w0 w' v P := by
  obtain ⟨A, c, rs, h1, h2, h3, h4, h5⟩ := h
  exact ⟨A, c, rs, h1, h2, h3, fun k hk => Nat.le_trans hb (h4 k hk), fun x hx k hk => Nat.le_trans hb (h5 x hx k hk)⟩
/-- what packed returns: an error, or a packing -/
def packRes (j : Lo) (ts : List Th) (ld : Bool) : List (List Int) × Int :=
  if checkE j ts ≠ 0 then ([], checkE j ts) else match packL j ts (upto ts.length) ld with
    | none => ([], 7)
    | some P => (P, 0)
def PcR (j : Lo) (ts : List Th) (ld : Bool) (w : World) (e : Ending) (w' : World) : Prop :=
  Below w.heap.size w w' ∧ ∃ v, e = .returned (.tuple #[v, .int .i64 (packRes j ts ld).2]) ∧ RowsV w w' v (packRes j ts ld).1
theorem PcR.mk {j : Lo} {ts : List Th} {ld : Bool} {w w' : World} {v : Value} {P : List (List Int)} {c : Int} (h : packRes j ts ld = (P, c)) (hb : Below w.heap.size w w') (hv : RowsV w w' v P) : PcR j ts ld w (.returned (.tuple #[v, .int .i64 c])) w' := ⟨hb, v, by rw [h], by rw [h]; exact hv⟩
end Go.Wg
namespace Go.Proofs.Ytbpmfaibcibleaa
open Go.RowKit Go.Bs Go.Wg Go.Pl Go.Sort
set_option maxRecDepth 100000 in
set_option maxHeartbeats 2000000 in
theorem packed_any (v : JbV) (ts : List Th) (ld : Bool) (w : World) (hsl : v.x.l.lanes.length ≤ 9223372036854775807) (hst : ts.length ≤ 9223372036854775807) (hl : Cells w v.x.A 1 Go.Bs.encI v.x.l.lanes) (ht : Cells w v.T 4 Th.enc ts) :
    Calls Try.prog 66 #[LoV.val v.x, .slice v.T ts.length v.cT, .bool ld] w (PcR v.x.l ts ld w) := by
  have HL := Lib.hid hl
  have HT := Lib.hid ht
  have C1 := Lib.hid (fun V (hV : Below w.heap.size w V) => check_any v ts V hsl hst (hl.ext hV) (ht.ext hV))
  have hb0 := ext_alloc w (.cells (LoV.enc v.x).toArray 44)
  have hP := Blk.new w 44 (LoV.enc v.x)
  have hl0 := hl.ext hb0
  have ht0 := ht.ext hb0
  clear hl ht
  unfold LoV.val
  unfold LoV.enc at *
  go_enter Try.func66, Try.ntmps66
  go_upto_region 1 with fail
  change Blk (w.alloc (.cells #[.slice v.x.A v.x.l.lanes.length v.x.c, .int .i64 v.x.l.height, .int .i64 v.x.l.carries, .int .i64 v.x.l.empty, .int .i64 v.x.l.rear, .int .i64 v.x.l.axle, .int .i64 v.x.l.deck] 44)) _ _ _ at hP
  change Below w.heap.size w (w.alloc (.cells #[.slice v.x.A v.x.l.lanes.length v.x.c, .int .i64 v.x.l.height, .int .i64 v.x.l.carries, .int .i64 v.x.l.empty, .int .i64 v.x.l.rear, .int .i64 v.x.l.axle, .int .i64 v.x.l.deck] 44)) at hb0
  change Cells (w.alloc (.cells #[.slice v.x.A v.x.l.lanes.length v.x.c, .int .i64 v.x.l.height, .int .i64 v.x.l.carries, .int .i64 v.x.l.empty, .int .i64 v.x.l.rear, .int .i64 v.x.l.axle, .int .i64 v.x.l.deck] 44)) _ _ _ _ at hl0
  change Cells (w.alloc (.cells #[.slice v.x.A v.x.l.lanes.length v.x.c, .int .i64 v.x.l.height, .int .i64 v.x.l.carries, .int .i64 v.x.l.empty, .int .i64 v.x.l.rear, .int .i64 v.x.l.axle, .int .i64 v.x.l.deck] 44)) _ _ _ _ at ht0
  generalize w.alloc (.cells #[.slice v.x.A v.x.l.lanes.length v.x.c, .int .i64 v.x.l.height, .int .i64 v.x.l.carries, .int .i64 v.x.l.empty, .int .i64 v.x.l.rear, .int .i64 v.x.l.axle, .int .i64 v.x.l.deck] 44) = W0 at *
  have q0 : W0.cell? ⟨w.heap.size, 0, none⟩ = _ := (hP).cell rfl
  have q1 : W0.cell? ⟨w.heap.size, 1, none⟩ = _ := (hP).cell rfl
  have q2 : W0.cell? ⟨w.heap.size, 2, none⟩ = _ := (hP).cell rfl
  have q3 : W0.cell? ⟨w.heap.size, 3, none⟩ = _ := (hP).cell rfl
  have q4 : W0.cell? ⟨w.heap.size, 4, none⟩ = _ := (hP).cell rfl
  have q5 : W0.cell? ⟨w.heap.size, 5, none⟩ = _ := (hP).cell rfl
  have q6 : W0.cell? ⟨w.heap.size, 6, none⟩ = _ := (hP).cell rfl
  have D1 := Lib.hid (C1.out W0 hb0)
  unfold LoV.val at D1
  generalize hce : checkE v.x.l ts = ce at *
  have Hce := Lib.hid hce
  clear hce
  go_wp2_with fail
  refine D1.out.mono ?_; rintro e W1 ⟨rfl, hx1⟩
  have hb1 := ext_trans hb0 hx1
  have hP1 := hP.ext hx1
  clear q0 q1 q2 q3 q4 q5 q6
  clear D1 hb0 hP hl0 ht0 hx1
  by_cases h0 : ce = 0
  case neg =>
    have h00 : (ce != 0) = true := by rw [bne_iff_ne]; exact h0
    have Hr := Lib.hid (show packRes v.x.l ts ld = ([], ce) by unfold packRes; rw [Hce.out, if_pos h0])
    clear h0
    go_wp2
    go_ret2
    exact PcR.mk Hr.out hb1 (RowsV.nil _ _)
  case pos =>
  subst h0
  have h00 : ((0 : Int) != 0) = false := rfl
  have HO := Lib.hid (checkE_zero.1 Hce.out)
  go_upto_region 4 with fail
  refine Dr.wp_region_plan 13 [] (.q [0, 1, 2, 3, 4, 6] (.e1 5 (.e1 7 (.q [8, 9, 10, 11, 12] .done)))) (by kernel_rfl) (by kernel_rfl) ?_
  have hb2 := hb1.drew
  have hP2 := hP1.drew
  clear hb1 hP1
  generalize World.drew _ = W2 at *
  have q0 := Dr.cell0 (hP2.cell (i := 0) rfl)
  have q1 := Dr.cell0 (hP2.cell (i := 1) rfl)
  have q2 := Dr.cell0 (hP2.cell (i := 2) rfl)
  have q3 := Dr.cell0 (hP2.cell (i := 3) rfl)
  have q4 := Dr.cell0 (hP2.cell (i := 4) rfl)
  have q5 := Dr.cell0 (hP2.cell (i := 5) rfl)
  have q6 := Dr.cell0 (hP2.cell (i := 6) rfl)
  refine Dr.plan_q (l := [_, _, _, _, _, _]) rfl (fun K hK => ?_)
  iterate 6 (go_big_quiet_step (fail))
  refine wpQuiet_nil (hK _ ?_); clear hK K
  clear q0 q1 q2 q3 q4 q5 q6
  have h14 := HO.out.2.1
  have CN := Lib.hid (numbers_any ts.length W2 (by omega))
  refine Dr.plan_e rfl (by rfl) (fun K hK => ?_)
  go_wp2_with fail
  refine CN.out.mono ?_; rintro e W3 ⟨cap, rfl, hc1, hc2, hB3, hx3⟩
  refine hK _ _ (.of hx3) ?_; clear hK K CN
  have hb3 := ext_trans hb2 hx3
  have hcN : Cells W3 (some ⟨W2.heap.size, 0, none⟩) 1 Go.Bs.encI (upto ts.length) := IArr.cells hB3
  have hj3 : JbM W3 v ts := ⟨HL.out.ext hb3, HT.out.ext hb3, by have := HO.out.1.many; omega, by omega⟩
  have CP := Lib.hid (pack_any v ts (some ⟨W2.heap.size, 0, none⟩) cap (upto ts.length) ld W3 hj3 HO.out.2.2 HO.out.1 (by rw [upto_len]; exact h14) (by omega) (fun x hx => mem_upto.1 hx) hcN)
  rw [upto_len] at CP
  unfold JbV.val at CP
  clear hcN hj3 hB3 hx3 hb2 hP2 hc1 hc2
  refine Dr.plan_e rfl (by rfl) (fun K hK => ?_)
  go_wp2_with fail
  refine CP.out.mono ?_
  rintro e W4 ⟨hx4, (⟨hn, rfl⟩ | ⟨P, O, cc, rs, hn, rfl, g1, g2, g3, g4⟩)⟩
  · refine hK _ _ (.of hx4) ?_; clear hK K CP
    have Hr := Lib.hid (show packRes v.x.l ts ld = ([], 7) by unfold packRes; rw [Hce.out, if_neg (by simp), hn])
    have hb4 := ext_trans hb3 hx4
    clear hn hx4
    refine Dr.plan_q (l := [_, _, _, _, _]) rfl (fun K hK => ?_)
    iterate 5 (go_big_quiet_step (fail))
    refine wpQuiet_nil (hK _ ?_); clear hK K
    refine Dr.plan_end rfl ?_
    go_wp2
    go_ret2
    exact PcR.mk Hr.out hb4 (RowsV.nil _ _)
  · refine hK _ _ (.of hx4) ?_; clear hK K CP
    have Hr := Lib.hid (show packRes v.x.l ts ld = (P, 0) by unfold packRes; rw [Hce.out, if_neg (by simp), hn])
    have hb4 := ext_trans hb3 hx4
    have h3 := hb3.size
    have HV := Lib.hid (show RowsV w W4 (.slice (some ⟨O, 0, none⟩) rs.length cc) P from ⟨_, cc, rs, rfl, g1, g2, fun k hk => by simp at hk; omega, fun x hx k hk => by have := g4 x hx k hk; omega⟩)
    clear hn hx4 g1 g2 g4
    generalize rs.length = rl at *
    refine Dr.plan_q (l := [_, _, _, _, _]) rfl (fun K hK => ?_)
    iterate 5 (go_big_quiet_step (fail))
    refine wpQuiet_nil (hK _ ?_); clear hK K
    refine Dr.plan_end rfl ?_
    go_wp2
    go_ret2
    exact PcR.mk Hr.out hb4 HV.out
set_option maxHeartbeats 1000000 in
theorem Pack_any (v : JbV) (ts : List Th) (w : World) (hsl : v.x.l.lanes.length ≤ 9223372036854775807) (hst : ts.length ≤ 9223372036854775807) (hl : Cells w v.x.A 1 Go.Bs.encI v.x.l.lanes) (ht : Cells w v.T 4 Th.enc ts) :
    Calls Try.prog 25 #[LoV.val v.x, .slice v.T ts.length v.cT] w (PcR v.x.l ts false w) := by
  have C1 := Lib.hid (fun V (hV : Below w.heap.size w V) => packed_any v ts false V hsl hst (hl.ext hV) (ht.ext hV))
  have hb0 := ext_alloc w (.cells (LoV.enc v.x).toArray 44)
  have hP := Blk.new w 44 (LoV.enc v.x)
  have hl0 := hl.ext hb0
  have ht0 := ht.ext hb0
  clear hl ht
  unfold LoV.val
  unfold LoV.enc at *
  go_enter Try.func25, Try.ntmps25
  go_upto_region 1 with fail
  change Blk (w.alloc (.cells #[.slice v.x.A v.x.l.lanes.length v.x.c, .int .i64 v.x.l.height, .int .i64 v.x.l.carries, .int .i64 v.x.l.empty, .int .i64 v.x.l.rear, .int .i64 v.x.l.axle, .int .i64 v.x.l.deck] 44)) _ _ _ at hP
  change Below w.heap.size w (w.alloc (.cells #[.slice v.x.A v.x.l.lanes.length v.x.c, .int .i64 v.x.l.height, .int .i64 v.x.l.carries, .int .i64 v.x.l.empty, .int .i64 v.x.l.rear, .int .i64 v.x.l.axle, .int .i64 v.x.l.deck] 44)) at hb0
  change Cells (w.alloc (.cells #[.slice v.x.A v.x.l.lanes.length v.x.c, .int .i64 v.x.l.height, .int .i64 v.x.l.carries, .int .i64 v.x.l.empty, .int .i64 v.x.l.rear, .int .i64 v.x.l.axle, .int .i64 v.x.l.deck] 44)) _ _ _ _ at hl0
  change Cells (w.alloc (.cells #[.slice v.x.A v.x.l.lanes.length v.x.c, .int .i64 v.x.l.height, .int .i64 v.x.l.carries, .int .i64 v.x.l.empty, .int .i64 v.x.l.rear, .int .i64 v.x.l.axle, .int .i64 v.x.l.deck] 44)) _ _ _ _ at ht0
  generalize w.alloc (.cells #[.slice v.x.A v.x.l.lanes.length v.x.c, .int .i64 v.x.l.height, .int .i64 v.x.l.carries, .int .i64 v.x.l.empty, .int .i64 v.x.l.rear, .int .i64 v.x.l.axle, .int .i64 v.x.l.deck] 44) = W0 at *
  have q0 : W0.cell? ⟨w.heap.size, 0, none⟩ = _ := (hP).cell rfl
  have q1 : W0.cell? ⟨w.heap.size, 1, none⟩ = _ := (hP).cell rfl
  have q2 : W0.cell? ⟨w.heap.size, 2, none⟩ = _ := (hP).cell rfl
  have q3 : W0.cell? ⟨w.heap.size, 3, none⟩ = _ := (hP).cell rfl
  have q4 : W0.cell? ⟨w.heap.size, 4, none⟩ = _ := (hP).cell rfl
  have q5 : W0.cell? ⟨w.heap.size, 5, none⟩ = _ := (hP).cell rfl
  have q6 : W0.cell? ⟨w.heap.size, 6, none⟩ = _ := (hP).cell rfl
  have D1 := Lib.hid (C1.out W0 hb0)
  unfold LoV.val at D1
  go_wp2_with fail
  refine D1.out.mono ?_; rintro e W1 ⟨hx1, u, rfl, hv⟩
  have hb1 := ext_trans hb0 hx1
  have HV := Lib.hid (hv.older hb0.size)
  clear q0 q1 q2 q3 q4 q5 q6
  clear D1 hb0 hP hl0 ht0 hx1 hv
  generalize hpr : packRes v.x.l ts false = pr at *
  obtain ⟨P, c⟩ := pr
  have Hpr := Lib.hid hpr
  clear hpr
  go_wp2
  go_ret2
  exact PcR.mk Hpr.out hb1 HV.out
set_option maxHeartbeats 1000000 in
theorem Load_any (v : JbV) (ts : List Th) (w : World) (hsl : v.x.l.lanes.length ≤ 9223372036854775807) (hst : ts.length ≤ 9223372036854775807) (hl : Cells w v.x.A 1 Go.Bs.encI v.x.l.lanes) (ht : Cells w v.T 4 Th.enc ts) :
    Calls Try.prog 28 #[LoV.val v.x, .slice v.T ts.length v.cT] w (PcR v.x.l ts true w) := by
  have C1 := Lib.hid (fun V (hV : Below w.heap.size w V) => packed_any v ts true V hsl hst (hl.ext hV) (ht.ext hV))
  have hb0 := ext_alloc w (.cells (LoV.enc v.x).toArray 44)
  have hP := Blk.new w 44 (LoV.enc v.x)
  have hl0 := hl.ext hb0
  have ht0 := ht.ext hb0
  clear hl ht
  unfold LoV.val
  unfold LoV.enc at *
  go_enter Try.func28, Try.ntmps28
  go_upto_region 1 with fail
  change Blk (w.alloc (.cells #[.slice v.x.A v.x.l.lanes.length v.x.c, .int .i64 v.x.l.height, .int .i64 v.x.l.carries, .int .i64 v.x.l.empty, .int .i64 v.x.l.rear, .int .i64 v.x.l.axle, .int .i64 v.x.l.deck] 44)) _ _ _ at hP
  change Below w.heap.size w (w.alloc (.cells #[.slice v.x.A v.x.l.lanes.length v.x.c, .int .i64 v.x.l.height, .int .i64 v.x.l.carries, .int .i64 v.x.l.empty, .int .i64 v.x.l.rear, .int .i64 v.x.l.axle, .int .i64 v.x.l.deck] 44)) at hb0
  change Cells (w.alloc (.cells #[.slice v.x.A v.x.l.lanes.length v.x.c, .int .i64 v.x.l.height, .int .i64 v.x.l.carries, .int .i64 v.x.l.empty, .int .i64 v.x.l.rear, .int .i64 v.x.l.axle, .int .i64 v.x.l.deck] 44)) _ _ _ _ at hl0
  change Cells (w.alloc (.cells #[.slice v.x.A v.x.l.lanes.length v.x.c, .int .i64 v.x.l.height, .int .i64 v.x.l.carries, .int .i64 v.x.l.empty, .int .i64 v.x.l.rear, .int .i64 v.x.l.axle, .int .i64 v.x.l.deck] 44)) _ _ _ _ at ht0
  generalize w.alloc (.cells #[.slice v.x.A v.x.l.lanes.length v.x.c, .int .i64 v.x.l.height, .int .i64 v.x.l.carries, .int .i64 v.x.l.empty, .int .i64 v.x.l.rear, .int .i64 v.x.l.axle, .int .i64 v.x.l.deck] 44) = W0 at *
  have q0 : W0.cell? ⟨w.heap.size, 0, none⟩ = _ := (hP).cell rfl
  have q1 : W0.cell? ⟨w.heap.size, 1, none⟩ = _ := (hP).cell rfl
  have q2 : W0.cell? ⟨w.heap.size, 2, none⟩ = _ := (hP).cell rfl
  have q3 : W0.cell? ⟨w.heap.size, 3, none⟩ = _ := (hP).cell rfl
  have q4 : W0.cell? ⟨w.heap.size, 4, none⟩ = _ := (hP).cell rfl
  have q5 : W0.cell? ⟨w.heap.size, 5, none⟩ = _ := (hP).cell rfl
  have q6 : W0.cell? ⟨w.heap.size, 6, none⟩ = _ := (hP).cell rfl
  have D1 := Lib.hid (C1.out W0 hb0)
  unfold LoV.val at D1
  go_wp2_with fail
  refine D1.out.mono ?_; rintro e W1 ⟨hx1, u, rfl, hv⟩
  have hb1 := ext_trans hb0 hx1
  have HV := Lib.hid (hv.older hb0.size)
  clear q0 q1 q2 q3 q4 q5 q6
  clear D1 hb0 hP hl0 ht0 hx1 hv
  generalize hpr : packRes v.x.l ts true = pr at *
  obtain ⟨P, c⟩ := pr
  have Hpr := Lib.hid hpr
  clear hpr
  go_wp2
  go_ret2
  exact PcR.mk Hpr.out hb1 HV.out
end Go.Proofs.Ytbpmfaibcibleaa

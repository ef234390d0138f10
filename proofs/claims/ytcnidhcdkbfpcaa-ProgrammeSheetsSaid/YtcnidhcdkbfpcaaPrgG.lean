/- Walk: is a change too long? Is a person tired? (Printed by mk_prgg.py.) -/
import Derived.Test.YtcnidhcdkbfpcaaPrgF
namespace Go.Pg
open Go.RowKit Go.Bs Go.Pl
/-- the state of the reckoning of a change: the show's box, the place's box, the sum -/
structure LoI (w : World) (s : Sh) (p : ShP) (pl : List Value) (sum : Int) (W : World) : Prop where
  bl : Below w.heap.size w W
  bs : Blk W w.heap.size 35 (shC s p)
  bp : Blk W (w.heap.size + 1) 125 pl
  bm : Blk W (w.heap.size + 2) 3 [.int .i64 sum]
section
variable {w W W' : World} {s : Sh} {p : ShP} {pl : List Value} {sum : Int}
theorem LoI.ext (h : LoI w s p pl sum W) (hb : Below W.heap.size W W') : LoI w s p pl sum W' := ⟨h.bl.trans (hb.mono h.bl.size), h.bs.ext hb, h.bp.ext hb, h.bm.ext hb⟩
theorem LoI.grown {row : Option Nat} (h : LoI w s p pl sum W) (hg : W.grownBy W' row) (hr : ∀ r, row = some r → w.heap.size ≤ r ∧ ∃ o : Obj, W.heap[r]? = some o ∧ o.isCells = false) : LoI w s p pl sum W' := by
  have hr' := fun r e => (hr r e).2
  exact ⟨below_grown h.bl h.bl.size hg (fun k e => (hr k e).1), Blk.kept h.bs hg hr', Blk.kept h.bp hg hr', Blk.kept h.bm hg hr'⟩
theorem LoI.set (h : LoI w s p pl sum W) (v : Int) : LoI w s p pl v (W.setCell ⟨w.heap.size + 2, 0, none⟩ (.int .i64 v)) :=
  ⟨h.bl.setCell (by show w.heap.size ≤ w.heap.size + 2; omega) _, h.bs.other (by simp) _, h.bp.other (by simp) _, h.bm.set 0 _⟩
end
end Go.Pg
namespace Go.Proofs.Ytcnidhcdkbfpcaa
open Go.RowKit Go.Bs Go.Pg Go.Pl Go.Sort
section
attribute [local go_sem] Oper.semAt_some
set_option maxRecDepth 100000 in
set_option maxHeartbeats 8000000 in
theorem long_any (s : Sh) (p : ShP) (x : AcV) (last i : Nat) (sec : Int) (set : Nat) (w : World) (h : ShM w s p) (hok : s.Ok) (hl : last < s.acts.length) (hi : i < s.acts.length) (hx : x.a = s.act i) :
    Calls Try.prog 99 #[shV s p, plV x i last sec set] w fun e w' => e = .returned (.bool (decide (s.cover < s.chM last i))) ∧ Below w.heap.size w w' := by
  obtain ⟨b, o, C, c, hA, hb, a0, a1, a2, a3, a4, -⟩ := h.at hl
  have hrx := (h.bit hi).1
  have hry := (h.bit hl).1
  have hRx := (hok.act hi).rigs
  have hRy := (hok.act hl).rigs
  have hM0 := hok.chM last i
  have hcv := hok.cover
  have hins := hok.ins
  have houts := hok.outs
  have Hoi := Lib.hid hok.oi
  have Hm := Lib.hid (show isum ((Sh.less x.a.rigs (s.act last).rigs).map fun k => s.ins.getD k 0) + isum ((Sh.less (s.act last).rigs x.a.rigs).map fun k => s.outs.getD k 0) = s.chM last i by rw [hx]; rfl)
  rw [← hx] at hrx hRx
  generalize (s.act last).rigs = ry at *
  clear hx hok
  have hI0 := h.ins
  have hO0 := h.outs
  have m3 := h.small.2.2.1
  have m4 := h.small.2.2.2.1
  clear h
  have hln : (last : Int) < (s.acts.length : Int) := by omega
  unfold plV shV
  have hb0 : Below w.heap.size w (((w.alloc (.cells (shC s p).toArray 35)).alloc (.cells (plC x i last sec set).toArray 125)).alloc (.cells #[.int .i64 0] 3)) := (((Below.refl _ _).alloc (Nat.le_refl _) _).alloc (by simp) _).alloc (by simp; omega) _
  have hS := ((Blk.new w 35 (shC s p)).alloc (.cells (plC x i last sec set).toArray 125)).alloc (.cells #[.int .i64 0] 3)
  have hP := (Blk.new (w.alloc (.cells (shC s p).toArray 35)) 125 (plC x i last sec set)).alloc (.cells #[.int .i64 0] 3)
  have hM := Blk.new ((w.alloc (.cells (shC s p).toArray 35)).alloc (.cells (plC x i last sec set).toArray 125)) 3 [.int .i64 0]
  simp only [World.size_alloc] at hM hP
  generalize hcm : s.chM last i = cm at *
  clear hcm
  have HA := Lib.hid hA
  clear hA
  refine (callsIn_wide (n := 20)).1 (callsIn_of_wp_marks Try.func99 rfl trivial ?_)
  simp only [Try.ntmps99, List.size_toArray, List.length_cons, List.length_nil, Nat.reduceAdd, Nat.reduceSub, Array.replicate_succ, Array.replicate_zero, List.push_toArray, List.append_toArray, List.nil_append, List.cons_append]
  refine wpIn_wide.2 ?_
  go_upto_region 2 with fail
  change Below w.heap.size w (((w.alloc (.cells #[.slice p.A s.acts.length p.cA, .slice p.R s.rest.length p.cR, .slice p.I s.ins.length p.cI, .slice p.O s.outs.length p.cO, .int .i64 s.cover, .int .i64 s.dull, .slice p.B s.before.length p.cB] 35)).alloc (.cells #[.int .i64 x.a.min, .int .i64 x.a.ten, .int .u16 x.a.rigs, .slice x.C x.a.casts.length x.c, .bool x.a.spare, .int .i64 i, .int .i64 last, .int .i64 sec, .int .u16 set] 125)).alloc (.cells #[.int .i64 0] 3)) at hb0
  change Blk (((w.alloc (.cells #[.slice p.A s.acts.length p.cA, .slice p.R s.rest.length p.cR, .slice p.I s.ins.length p.cI, .slice p.O s.outs.length p.cO, .int .i64 s.cover, .int .i64 s.dull, .slice p.B s.before.length p.cB] 35)).alloc (.cells #[.int .i64 x.a.min, .int .i64 x.a.ten, .int .u16 x.a.rigs, .slice x.C x.a.casts.length x.c, .bool x.a.spare, .int .i64 i, .int .i64 last, .int .i64 sec, .int .u16 set] 125)).alloc (.cells #[.int .i64 0] 3)) _ _ _ at hS hP hM
  generalize ((w.alloc (.cells #[.slice p.A s.acts.length p.cA, .slice p.R s.rest.length p.cR, .slice p.I s.ins.length p.cI, .slice p.O s.outs.length p.cO, .int .i64 s.cover, .int .i64 s.dull, .slice p.B s.before.length p.cB] 35)).alloc (.cells #[.int .i64 x.a.min, .int .i64 x.a.ten, .int .u16 x.a.rigs, .slice x.C x.a.casts.length x.c, .bool x.a.spare, .int .i64 i, .int .i64 last, .int .i64 sec, .int .u16 set] 125)).alloc (.cells #[.int .i64 0] 3) = W0 at *
  have hI : LoI w s p (plC x i last sec set) 0 W0 := ⟨hb0, hS, hP, hM⟩
  have x0 : W0.cell? ⟨w.heap.size, 0, none⟩ = some (.slice (some ⟨b, o, none⟩) s.acts.length p.cA) := by rw [← HA.out]; exact hS.cell rfl
  have x2' : W0.cell? ⟨w.heap.size + 1, 6, none⟩ = some (.int .i64 last) := hP.cell rfl
  have x3' : W0.cell? ⟨b, o + last * 5 + 2, none⟩ = _ := (hb0.cell hb).trans a2
  clear a0 a1 a2 a3 a4 hb0 hS hP hM
  go_upto_region 3 with fail
  clear x0 x2' x3' HA hl hi hln
  obtain ⟨c1, hc1, hn1, hb1⟩ := andNot16 x.a.rigs ry hrx
  obtain ⟨c2, hc2, hn2, hb2⟩ := andNot16 ry x.a.rigs hry
  have hl1 : ∀ z : Mb c1, z.1 < s.ins.length := fun z => bit_lt hRx (by have := hb1 z.1; rw [z.2] at this; cases h : x.a.rigs.testBit z.1 <;> simp [h] at this ⊢)
  have hl2 : ∀ z : Mb c2, z.1 < s.ins.length := fun z => bit_lt hRy (by have := hb2 z.1; rw [z.2] at this; cases h : ry.testBit z.1 <;> simp [h] at this ⊢)
  have HN1 := Lib.hid (less_memb hb1)
  have HN2 := Lib.hid (less_memb hb2)
  clear hb1 hb2 hRx hRy
  have x2 : W0.cell? ⟨w.heap.size + 1, 2, none⟩ = some (.int .u16 x.a.rigs) := hI.bp.cell rfl
  have CM := Lib.hid (members_any c1 W0)
  have hb1 := ext_alloc W0 (.cells #[.int .u16 c1] 47)
  have hBs := hI.bl.size
  have hM1 := hI.bm.lt
  have hI1 := hI.ext hb1
  have hbs : (W0.alloc (.cells #[.int .u16 c1] 47)).cell? ⟨W0.heap.size, 0, none⟩ = some (.int .u16 c1) := by simp
  have hsz1 : (W0.alloc (.cells #[.int .u16 c1] 47)).heap.size = W0.heap.size + 1 := by simp
  generalize W0.heap.size = Bs at *
  go_wp2_with fail
  refine CM.out.mono ?_; rintro e w1 ⟨rfl, rfl⟩
  go_wp2
  clear x2 CM hI hb1
  generalize W0.alloc (.cells #[.int .u16 c1] 47) = w1 at *
  generalize ha : Act.mk _ _ = a0
  refine wpIn_wide.1 (wpIn_rangeFunc_ownH (F := Fence.wide) (n := 20) rfl (by omega) (gf := 97) (lb := #[.pointer (some ⟨Bs, 0, none⟩)]) (by rw [← ha]; rfl) trivial (enters_of Try.func97 (by kernel_rfl) rfl)
    (mem_stops c1 hc1 Fence.wide 19 trivial rfl (by omega) Bs w.heap.size w1 hbs (by omega))
    (fun h k => h.trans k) (Kept.put (by omega) (by omega)) (Below.refl _ _) (fun _ => rfl)
    (fun pre W => LoI w s p (plC x i last sec set) (isum (pre.map fun z => s.ins.getD z.1 0)) W ∧ w1.heap.size ≤ W.heap.size)
    (fun _ _ _ => False) ?own5 (fun _ _ _ _ _ hs _ _ => hs) ?start5
    (fun x a' W => a' = { tmps := (a0.tmps.setIfInBounds 22 (.int .i64 (x.1 : Int))).setIfInBounds 7 (.int .i64 (x.1 : Int)), defers := [] })
    (fun _ _ _ _ _ _ hs _ _ => hs)
    ?assign5 ?body5 ?done5 ?stop5)
  case own5 =>
    rintro pre X Y row ⟨h1, h2⟩ hg hr
    exact ⟨h1.grown hg (fun r e => ⟨by have := (hr r e).1; omega, (hr r e).2⟩), Nat.le_trans h2 hg.size⟩
  case start5 => exact ⟨by simpa [isum] using hI1, Nat.le_refl _⟩
  case assign5 =>
    subst ha
    rintro l pre z W K hi hK
    dsimp only
    gi_wp2
    exact hK _ _ (KeepsFrom.refl _ _) ⟨Below.refl _ _, rfl⟩ hi rfl
  case body5 =>
    subst ha
    rintro l pre z a' W hl - ⟨hI, hsz⟩ rfl hlt
    simp only [List.setIfInBounds_toArray, List.set_cons_succ, List.set_cons_zero]
    have hR := Rnd.refl w1.heap.size w.heap.size Bs W
    have hsb := isum_map_bd (fun z : Mb c1 => s.ins.getD z.1 0) pre 30 (fun z _ => Sh.getD_bd hins (by omega) z.1)
    have hvb := Sh.getD_bd hins (by omega) z.1
    have Hsn := Lib.hid (isum_snoc (fun k => s.ins.getD k 0) pre z)
    have hz := hl1 z
    gi_upto_region 5 with fail
    have hIe := hI.ext (ext_drew W)
    have hRe := hR.ext (ext_drew W) (by omega) (by omega)
    have hsze : w1.heap.size ≤ W.drew.heap.size := hsz
    refine Dr.wpIn_region_plan rfl ?q5 7 [] (.q [0, 1, 2, 3, 4, 5, 6] .done) (by kernel_rfl) (by kernel_rfl) (by kernel_rfl) ?_
    case q5 => rintro ⟨_, _, h⟩; exact h
    clear hI hR
    generalize W.drew = W2 at *
    obtain ⟨bi, oi, hpI, -, ci⟩ := (hI0.ext hIe.bl).at1 (k := z.1) (hl1 z) rfl
    have q0 := Dr.cell0 (hIe.bm.cell (i := 0) rfl)
    have q1 := hIe.bs.cell (i := 2) rfl
    rw [hpI] at q1
    have q1 := Dr.cell0 q1
    have q2 := Dr.cell0 ci
    have hz0 : (0 : Int) ≤ (z.1 : Int) := by omega
    have hzn : (z.1 : Int) < (s.ins.length : Int) := by have := (hl1 z); omega
    have hgv : s.ins.getD z.1 0 = s.ins[z.1]'((hl1 z)) := by simp [(hl1 z)]
    rw [hgv] at Hsn hvb
    clear hgv hpI ci
    generalize s.ins[z.1]'((hl1 z)) = v at *
    generalize isum (pre.map fun z => s.ins.getD z.1 0) = sm at *
    refine Dr.plan_q (l := [_, _, _, _, _, _, _]) rfl (fun K hK => ?_)
    iterate 7 (go_big_quiet_step (fail))
    refine wpQuiet_nil (hK _ ?_); clear hK K
    clear q0 q1 q2
    have f0 := hIe.bm.free 0
    have r0 : W2.cell? ⟨w.heap.size + 2, 0, none⟩ = _ := hIe.bm.cell (i := 0) rfl
    refine Dr.plan_done (tl := [_]) rfl ?_
    go_wp2
    have hR2 := hRe.setCell (p := ⟨w.heap.size + 2, 0, none⟩) (by simp) (by simp; omega) (.int .i64 (sm + v))
    have hI2 := hIe.set (sm + v)
    refine ⟨hR2.kf, hR2.kp, by rw [Hsn.out, show sm + v = sm + v from rfl]; exact hI2, Nat.le_trans hsz hR2.sz⟩
  case stop5 =>
    rintro D' cc pre W _ _ h _
    exact h.elim
  case done5 =>
    subst ha
    rintro D1 ys W hD hys ⟨hI, hsz⟩ hK1
    have hs1 := isum_val (fun k => s.ins.getD k 0) ys _ hys
    rw [HN1.out] at hs1
    rw [hs1] at hI
    clear hs1 hys
    generalize hs1 : isum ((Sh.less x.a.rigs ry).map fun k => s.ins.getD k 0) = m1 at *
    have hm1b := isum_map_bd (fun k => s.ins.getD k 0) (Sh.less x.a.rigs ry) 30 (fun k _ => Sh.getD_bd hins (by omega) k)
    have hl9 := Sh.less_len x.a.rigs ry
    rw [hs1] at hm1b
    have hD1g : w.heap.size + 2 < D1 := by omega
    have hD1l : D1 < W.heap.size := (Array.getElem?_eq_some_iff.1 hK1).1
    clear hs1 hbs hI1 hsz1 hD hsz hBs hM1
    have x2 : W.cell? ⟨w.heap.size + 1, 2, none⟩ = some (.int .u16 x.a.rigs) := hI.bp.cell rfl
    have CM := Lib.hid (members_any c2 W)
    have hb1 := ext_alloc W (.cells #[.int .u16 c2] 47)
    have hBs := hI.bl.size
    have hM1 := hI.bm.lt
    have hI1 := hI.ext hb1
    have hbs : (W.alloc (.cells #[.int .u16 c2] 47)).cell? ⟨W.heap.size, 0, none⟩ = some (.int .u16 c2) := by simp
    have hsz1 : (W.alloc (.cells #[.int .u16 c2] 47)).heap.size = W.heap.size + 1 := by simp
    have hD1 : (W.alloc (.cells #[.int .u16 c2] 47)).heap[D1]? = some (.deferred (some [])) := (hb1.block D1 hD1l).trans hK1
    generalize W.heap.size = Bs at *
    go_wp2_with fail
    refine CM.out.mono ?_; rintro e w1 ⟨rfl, rfl⟩
    go_wp2
    clear x2 CM hI hb1
    generalize W.alloc (.cells #[.int .u16 c2] 47) = w1 at *
    generalize ha : Act.mk _ _ = a0
    refine wpIn_wide.1 (wpIn_rangeFunc_ownH (F := Fence.wide) (n := 20) rfl (by omega) (gf := 97) (lb := #[.pointer (some ⟨Bs, 0, none⟩)]) (by rw [← ha]; rfl) trivial (enters_of Try.func97 (by kernel_rfl) rfl)
      (mem_stops c2 hc2 Fence.wide 19 trivial rfl (by omega) Bs w.heap.size w1 hbs (by omega))
      (fun h k => h.trans k) (Kept.put (by omega) (by omega)) (Below.refl _ _) (fun _ => rfl)
      (fun pre W => LoI w s p (plC x i last sec set) (m1 + isum (pre.map fun z => s.outs.getD z.1 0)) W ∧ w1.heap.size ≤ W.heap.size ∧ W.heap[D1]? = some (.deferred (some [])))
      (fun _ _ _ => False) ?own8 (fun _ _ _ _ _ hs _ _ => hs) ?start8
      (fun x a' W => a' = { tmps := (a0.tmps.setIfInBounds 36 (.int .i64 (x.1 : Int))).setIfInBounds 8 (.int .i64 (x.1 : Int)), defers := [] })
      (fun _ _ _ _ _ _ hs _ _ => hs)
      ?assign8 ?body8 ?done8 ?stop8)
    case own8 =>
      rintro pre X Y row ⟨h1, h2, h3⟩ hg hr
      exact ⟨h1.grown hg (fun r e => ⟨by have := (hr r e).1; omega, (hr r e).2⟩), Nat.le_trans h2 hg.size, (hg.block D1 (Array.getElem?_eq_some_iff.1 h3).1 (fun e => by have := (hr D1 e.symm).1; omega)).trans h3⟩
    case start8 => exact ⟨by simpa [isum] using hI1, Nat.le_refl _, hD1⟩
    case assign8 =>
      subst ha
      rintro l pre z W K hi hK
      dsimp only
      gi_wp2
      exact hK _ _ (KeepsFrom.refl _ _) ⟨Below.refl _ _, rfl⟩ hi rfl
    case body8 =>
      subst ha
      rintro l pre z a' W hl - ⟨hI, hsz, hDp⟩ rfl hlt
      simp only [List.setIfInBounds_toArray, List.set_cons_succ, List.set_cons_zero]
      have hR := Rnd.refl w1.heap.size w.heap.size Bs W
      have hsb := isum_map_bd (fun z : Mb c2 => s.outs.getD z.1 0) pre 30 (fun z _ => Sh.getD_bd houts (by omega) z.1)
      have hvb := Sh.getD_bd houts (by omega) z.1
      have Hsn := Lib.hid (isum_snoc (fun k => s.outs.getD k 0) pre z)
      have hz := hl2 z
      gi_upto_region 8 with fail
      have hIe := hI.ext (ext_drew W)
      have hRe := hR.ext (ext_drew W) (by omega) (by omega)
      have hsze : w1.heap.size ≤ W.drew.heap.size := hsz
      have hDe : W.drew.heap[D1]? = _ := hDp
      refine Dr.wpIn_region_plan rfl ?q8 7 [] (.q [0, 1, 2, 3, 4, 5, 6] .done) (by kernel_rfl) (by kernel_rfl) (by kernel_rfl) ?_
      case q8 => rintro ⟨_, _, h⟩; exact h
      clear hI hR hDp
      generalize W.drew = W2 at *
      obtain ⟨bi, oi, hpI, -, ci⟩ := (hO0.ext hIe.bl).at1 (k := z.1) (show z.1 < s.outs.length by rw [Hoi.out]; exact hz) rfl
      have q0 := Dr.cell0 (hIe.bm.cell (i := 0) rfl)
      have q1 := hIe.bs.cell (i := 3) rfl
      rw [hpI] at q1
      have q1 := Dr.cell0 q1
      have q2 := Dr.cell0 ci
      have hz0 : (0 : Int) ≤ (z.1 : Int) := by omega
      have hzn : (z.1 : Int) < (s.outs.length : Int) := by have := (show z.1 < s.outs.length by rw [Hoi.out]; exact hz); omega
      have hgv : s.outs.getD z.1 0 = s.outs[z.1]'((show z.1 < s.outs.length by rw [Hoi.out]; exact hz)) := by simp [(show z.1 < s.outs.length by rw [Hoi.out]; exact hz)]
      rw [hgv] at Hsn hvb
      clear hgv hpI ci
      generalize s.outs[z.1]'((show z.1 < s.outs.length by rw [Hoi.out]; exact hz)) = v at *
      generalize isum (pre.map fun z => s.outs.getD z.1 0) = sm at *
      refine Dr.plan_q (l := [_, _, _, _, _, _, _]) rfl (fun K hK => ?_)
      iterate 7 (go_big_quiet_step (fail))
      refine wpQuiet_nil (hK _ ?_); clear hK K
      clear q0 q1 q2
      have f0 := hIe.bm.free 0
      have r0 : W2.cell? ⟨w.heap.size + 2, 0, none⟩ = _ := hIe.bm.cell (i := 0) rfl
      refine Dr.plan_done (tl := [_]) rfl ?_
      go_wp2
      have hR2 := hRe.setCell (p := ⟨w.heap.size + 2, 0, none⟩) (by simp) (by simp; omega) (.int .i64 (m1 + sm + v))
      have hI2 := hIe.set (m1 + sm + v)
      refine ⟨hR2.kf, hR2.kp, by rw [Hsn.out, ← Int.add_assoc]; exact hI2, Nat.le_trans hsz hR2.sz, (Below.heap_setCell W2 ⟨w.heap.size + 2, 0, none⟩ _ D1 (by simp; omega)).trans hDe⟩
    case stop8 =>
      rintro D' cc pre W _ _ h _
      exact h.elim
    case done8 =>
      subst ha
      rintro D2 ys W hD hys ⟨hI, hsz, hD1⟩ hK2
      have hs1 := isum_val (fun k => s.outs.getD k 0) ys _ hys
      rw [HN2.out] at hs1
      rw [hs1] at hI
      clear hs1 hys
      generalize hs2 : isum ((Sh.less ry x.a.rigs).map fun k => s.outs.getD k 0) = m2 at *
      have Hmm := Lib.hid Hm.out
      have hD2g : w.heap.size + 2 < D2 := by omega
      have hD12 : D1 ≠ D2 := by omega
      clear hs2 hbs hI1 hsz1 hD hsz hBs hM1 Hm
      have q0 : W.cell? ⟨w.heap.size + 2, 0, none⟩ = _ := hI.bm.cell (i := 0) rfl
      have q1 : W.cell? ⟨w.heap.size, 4, none⟩ = _ := hI.bs.cell (i := 4) rfl
      go_wp2
      have hrow2 : ∀ r, some D2 = some r → ∃ o : Obj, W.heap[r]? = some o ∧ o.isCells = false := fun r e => by cases e; exact ⟨_, hK2, rfl⟩
      have hK1f : (W.putObj D2 (.deferred none)).heap[D1]? = some (.deferred (some [])) := (World.putObj_heap_other hD12).trans hD1
      have p4 : Below w.heap.size w ((W.putObj D2 (.deferred none)).putObj D1 (.deferred none)) :=
        (hI.bl.trans (belowK_b (w := w) (Nat.le_refl _) W D2 _ _ (by omega) hK2 rfl rfl)).trans (belowK_b (w := w) (Nat.le_refl _) _ D1 _ _ (by omega) hK1f rfl rfl)
      refine ⟨by simp, .inl ⟨_, _, rfl, run_takeDeferred hK2, by simp, .inl ⟨_, _, rfl, run_takeDeferred hK1f, .bool (decide (s.cover < cm)), ?_, rfl, p4⟩⟩⟩
      simp [results, Try.results99, go_sem]
      rw [Hmm.out]
end
end Go.Proofs.Ytcnidhcdkbfpcaa

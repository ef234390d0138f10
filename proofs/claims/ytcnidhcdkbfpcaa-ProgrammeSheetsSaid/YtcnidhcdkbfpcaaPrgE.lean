/- Walk: the change between two acts. (Printed by mk_prge.py.) -/
import Derived.Test.YtcnidhcdkbfpcaaPrgD
namespace Go.Pg
open Go.RowKit Go.Bs Go.Pl
/-- an act where it lies -/
theorem ShM.av' {w : World} {s : Sh} {p : ShP} (h : ShM w s p) {i : Nat} (hi : i < s.acts.length) :
    ∃ x ∈ p.av, x.a = s.act i ∧ ∃ b off, p.A = some ⟨b, off, none⟩ ∧ b < w.heap.size ∧ w.cell? ⟨b, off + i * 5, none⟩ = some (.int .i64 x.a.min) ∧ w.cell? ⟨b, off + i * 5 + 1, none⟩ = some (.int .i64 x.a.ten) ∧ w.cell? ⟨b, off + i * 5 + 2, none⟩ = some (.int .u16 x.a.rigs) ∧
      w.cell? ⟨b, off + i * 5 + 3, none⟩ = some (.slice x.C x.a.casts.length x.c) ∧ w.cell? ⟨b, off + i * 5 + 4, none⟩ = some (.bool x.a.spare) ∧ Cells w x.C 1 encU x.a.casts := by
  have hk : i < p.av.length := by rw [h.len]; exact hi
  obtain ⟨b, off, hA, hb, c0, c1, c2, c3, c4⟩ := h.acts.at5 hk rfl
  have e : (p.av[i]).a = s.act i := by
    rw [Sh.act_eq hi]
    have := h.eq
    have h2 : (p.av.map AcV.a)[i]? = s.acts[i]? := by rw [this]
    simpa [hk, hi] using h2
  exact ⟨_, List.getElem_mem hk, e, b, off, hA, hb, c0, c1, c2, c3, c4, h.casts _ (List.getElem_mem hk)⟩
/-- the state of the reckoning of a change: the show's box, the sum, both acts -/
structure ChI (w : World) (s : Sh) (p : ShP) (X Y : Nat) (x y : AcV) (sum : Int) (W : World) : Prop where
  bl : Below w.heap.size w W
  bs : Blk W w.heap.size 35 (shC s p)
  bm : Blk W (w.heap.size + 1) 3 [.int .i64 sum]
  bx : Blk W X 82 (AcV.enc x)
  by_ : Blk W Y 82 (AcV.enc y)
section
variable {w W W' : World} {s : Sh} {p : ShP} {X Y : Nat} {x y : AcV} {sum : Int}
theorem ChI.ext (h : ChI w s p X Y x y sum W) (hb : Below W.heap.size W W') : ChI w s p X Y x y sum W' := ⟨h.bl.trans (hb.mono h.bl.size), h.bs.ext hb, h.bm.ext hb, h.bx.ext hb, h.by_.ext hb⟩
theorem ChI.grown {row : Option Nat} (h : ChI w s p X Y x y sum W) (hg : W.grownBy W' row) (hr : ∀ r, row = some r → w.heap.size ≤ r ∧ ∃ o : Obj, W.heap[r]? = some o ∧ o.isCells = false) : ChI w s p X Y x y sum W' := by
  have hr' := fun r e => (hr r e).2
  exact ⟨below_grown h.bl h.bl.size hg (fun k e => (hr k e).1), Blk.kept h.bs hg hr', Blk.kept h.bm hg hr', Blk.kept h.bx hg hr', Blk.kept h.by_ hg hr'⟩
theorem ChI.set (h : ChI w s p X Y x y sum W) (hX : w.heap.size + 1 ≠ X) (hY : w.heap.size + 1 ≠ Y) (v : Int) : ChI w s p X Y x y v (W.setCell ⟨w.heap.size + 1, 0, none⟩ (.int .i64 v)) :=
  ⟨h.bl.setCell (by show w.heap.size ≤ w.heap.size + 1; omega) _, h.bs.other (by simp) _, h.bm.set 0 _, h.bx.other (by show X ≠ _; exact Ne.symm hX) _, h.by_.other (by show Y ≠ _; exact Ne.symm hY) _⟩
end
/-- A store of what lies there turns nothing. -/
theorem set_self {w : World} {B T i : Nat} {cs : List Value} {v : Value} (h : Blk w B T cs) (hi : cs[i]? = some v) : w.setCell ⟨B, i, none⟩ v = w := by
  have e : (w.setCell ⟨B, i, none⟩ v).heap = w.heap := by
    apply Array.ext_getElem?
    intro k
    by_cases hk : k = B
    · subst hk
      have h1 := h.set i v
      have h2 : cs.set i v = cs := by
        apply List.ext_getElem?
        intro j
        rw [List.getElem?_set]
        split
        · rename_i hj; subst hj
          split
          · exact hi.symm
          · rename_i hlt; rw [List.getElem?_eq_none (by omega)]
        · rfl
      rw [h2] at h1
      exact Eq.trans h1 (Eq.symm h)
    · exact Below.heap_setCell w ⟨B, i, none⟩ v k hk
  have e2 : w.setCell ⟨B, i, none⟩ v = { w with heap := (w.setCell ⟨B, i, none⟩ v).heap } := rfl
  rw [e2, e]
theorem isum_snoc {s : Nat} (f : Nat → Int) (pre : List (Mb s)) (x : Mb s) : isum ((pre ++ [x]).map fun z => f z.1) = isum (pre.map fun z => f z.1) + f x.1 := by
  rw [List.map_append, isum_append]; simp [isum]
theorem isum_val {s : Nat} (f : Nat → Int) (pre : List (Mb s)) (l : List Nat) (h : pre.map (·.1) = l) : isum (pre.map fun z => f z.1) = isum (l.map f) := by
  rw [← h, List.map_map]; rfl
theorem less_memb {a b c : Nat} (h : ∀ i, c.testBit i = (a.testBit i && !b.testBit i)) : Sh.memb c = Sh.less a b := by
  unfold Sh.memb Sh.less
  congr 1; funext i; exact h i
end Go.Pg
namespace Go.Proofs.Ytcnidhcdkbfpcaa
open Go.RowKit Go.Bs Go.Pg Go.Pl Go.Sort
section
attribute [local go_sem] Oper.semAt_some
set_option maxRecDepth 100000 in
set_option maxHeartbeats 8000000 in
theorem change_any (s : Sh) (p : ShP) (a b : Nat) (w : World) (h : ShM w s p) (hok : s.Ok) (ha : a < s.acts.length) (hb : b < s.acts.length) :
    Calls Try.prog 53 #[shV s p, .int .i64 a, .int .i64 b] w fun e w' => e = .returned (.tuple #[.int .i64 (s.chM a b), .int .i64 (s.chC a b)]) ∧ Below w.heap.size w w' := by
  obtain ⟨x, hxm, hxa, bx, ox, hA, hbx, a0, a1, a2, a3, a4, -⟩ := h.av' ha
  obtain ⟨y, hym, hya, bx', ox', hA', -, b0, b1, b2, b3, b4, -⟩ := h.av' hb
  rw [hA] at hA'
  obtain ⟨rfl, rfl⟩ : bx = bx' ∧ ox = ox' := by simpa using hA'
  clear hA' hxm hym
  have hrx := (h.bit ha).1
  have hry := (h.bit hb).1
  have hRx := (hok.act ha).rigs
  have hRy := (hok.act hb).rigs
  have htx := (hok.act ha).ten
  have hty := (hok.act hb).ten
  have hdl := hok.dull
  have hM0 := hok.chM a b
  have hC0 := hok.chC a b
  have hins := hok.ins
  have houts := hok.outs
  have Hoi := Lib.hid hok.oi
  have Hm := Lib.hid (show isum ((Sh.less y.a.rigs x.a.rigs).map fun k => s.ins.getD k 0) + isum ((Sh.less x.a.rigs y.a.rigs).map fun k => s.outs.getD k 0) = s.chM a b by rw [hxa, hya]; rfl)
  have Hc := Lib.hid (show s.chM a b + s.dull * max 0 (x.a.ten - y.a.ten) = s.chC a b by rw [hxa, hya]; rfl)
  rw [← hxa] at hrx hRx htx
  rw [← hya] at hry hRy hty
  clear hxa hya hok
  have hI0 := h.ins
  have hO0 := h.outs
  have m3 := h.small.2.2.1
  have m4 := h.small.2.2.2.1
  clear h
  have hIlt : ∀ q, p.I.map (·.block) = some q → 0 < s.ins.length → q < w.heap.size := fun q hq h0 => by
    obtain ⟨b, off, e, hlt, -⟩ := hI0.at1 (k := 0) h0 rfl
    rw [e] at hq; simp at hq; subst hq; exact hlt
  have hOlt : ∀ q, p.O.map (·.block) = some q → 0 < s.outs.length → q < w.heap.size := fun q hq h0 => by
    obtain ⟨b, off, e, hlt, -⟩ := hO0.at1 (k := 0) h0 rfl
    rw [e] at hq; simp at hq; subst hq; exact hlt
  have hsl : ∀ v, shV s p = v → v = .agg #[.slice p.A s.acts.length p.cA, .slice p.R s.rest.length p.cR, .slice p.I s.ins.length p.cI, .slice p.O s.outs.length p.cO, .int .i64 s.cover, .int .i64 s.dull, .slice p.B s.before.length p.cB] := fun v e => e.symm
  rw [hsl _ rfl]
  clear hsl
  have hb0 : Below w.heap.size w ((w.alloc (.cells (shC s p).toArray 35)).alloc (.cells #[.int .i64 0] 3)) := ((Below.refl _ _).alloc (Nat.le_refl _) _).alloc (by simp) _
  have hS := (Blk.new w 35 (shC s p)).alloc (.cells #[.int .i64 0] 3)
  have hM := Blk.new (w.alloc (.cells (shC s p).toArray 35)) 3 [.int .i64 0]
  have hsz : ((w.alloc (.cells (shC s p).toArray 35)).alloc (.cells #[.int .i64 0] 3)).heap.size = w.heap.size + 2 := by simp
  simp only [World.size_alloc] at hM
  generalize hcm : s.chM a b = cm at *
  generalize hcc : s.chC a b = cc at *
  clear hcm hcc
  have HA := Lib.hid hA
  clear hA
  refine (callsIn_wide (n := 20)).1 (callsIn_of_wp_marks Try.func53 rfl trivial ?_)
  simp only [Try.ntmps53, List.size_toArray, List.length_cons, List.length_nil, Nat.reduceAdd, Nat.reduceSub, Array.replicate_succ, Array.replicate_zero, List.push_toArray, List.append_toArray, List.nil_append, List.cons_append]
  refine wpIn_wide.2 ?_
  go_upto_region 1 with fail
  change Blk ((w.alloc (.cells (shC s p).toArray 35)).alloc (.cells #[.int .i64 0] 3)) _ _ _ at hM
  change Below w.heap.size w ((w.alloc (.cells #[.slice p.A s.acts.length p.cA, .slice p.R s.rest.length p.cR, .slice p.I s.ins.length p.cI, .slice p.O s.outs.length p.cO, .int .i64 s.cover, .int .i64 s.dull, .slice p.B s.before.length p.cB] 35)).alloc (.cells #[.int .i64 0] 3)) at hb0
  change Blk ((w.alloc (.cells #[.slice p.A s.acts.length p.cA, .slice p.R s.rest.length p.cR, .slice p.I s.ins.length p.cI, .slice p.O s.outs.length p.cO, .int .i64 s.cover, .int .i64 s.dull, .slice p.B s.before.length p.cB] 35)).alloc (.cells #[.int .i64 0] 3)) _ _ _ at hS
  change Blk ((w.alloc (.cells #[.slice p.A s.acts.length p.cA, .slice p.R s.rest.length p.cR, .slice p.I s.ins.length p.cI, .slice p.O s.outs.length p.cO, .int .i64 s.cover, .int .i64 s.dull, .slice p.B s.before.length p.cB] 35)).alloc (.cells #[.int .i64 0] 3)) _ _ _ at hM
  change ((w.alloc (.cells #[.slice p.A s.acts.length p.cA, .slice p.R s.rest.length p.cR, .slice p.I s.ins.length p.cI, .slice p.O s.outs.length p.cO, .int .i64 s.cover, .int .i64 s.dull, .slice p.B s.before.length p.cB] 35)).alloc (.cells #[.int .i64 0] 3)).heap.size = _ at hsz
  generalize (w.alloc (.cells #[.slice p.A s.acts.length p.cA, .slice p.R s.rest.length p.cR, .slice p.I s.ins.length p.cI, .slice p.O s.outs.length p.cO, .int .i64 s.cover, .int .i64 s.dull, .slice p.B s.before.length p.cB] 35)).alloc (.cells #[.int .i64 0] 3) = W0 at *
  go_cut [8, 9] from 8 (fun u v W => ∃ X Y, u = .pointer (some ⟨X, 0, none⟩) ∧ v = .pointer (some ⟨Y, 0, none⟩) ∧ ChI w s p X Y x y 0 W ∧ w.heap.size + 2 ≤ X ∧ w.heap.size + 2 ≤ Y ∧ W.heap.size = w.heap.size + 4)
  case first =>
    refine Dr.wp_region_plan 13 [w.heap.size + 2, w.heap.size + 3] (.q [0, 1, 2, 3, 4, 5, 6, 7, 8, 9] (.e2 10 (.e1 11 (.e1 12 .done)) 11 (.e1 10 (.e1 12 .done)))) (by kernel_rfl) (by kernel_rfl) ?_
    have hb1 := hb0.drew
    have hS1 := hS.ext (ext_drew W0)
    have hM1 := hM.ext (ext_drew W0)
    have hsz1 : W0.drew.heap.size = w.heap.size + 2 := hsz
    clear hb0 hS hM hsz
    generalize World.drew _ = W at *
    have q0 : W.cell? ⟨w.heap.size, 0, none⟩ = some (.slice (some ⟨bx, ox, none⟩) s.acts.length p.cA) := by rw [← HA.out]; exact hS1.cell rfl
    have q0 := Dr.cls_cell (M := [w.heap.size + 2, w.heap.size + 3]) q0 (by simp)
    have qa0 := Dr.cls_cell (M := [w.heap.size + 2, w.heap.size + 3]) ((hb1.cell (p := ⟨bx, ox + a * 5, none⟩) hbx).trans a0) (by simp; omega)
    have qa1 := Dr.cls_cell (M := [w.heap.size + 2, w.heap.size + 3]) ((hb1.cell (p := ⟨bx, ox + a * 5 + 1, none⟩) hbx).trans a1) (by simp; omega)
    have qa2 := Dr.cls_cell (M := [w.heap.size + 2, w.heap.size + 3]) ((hb1.cell (p := ⟨bx, ox + a * 5 + 2, none⟩) hbx).trans a2) (by simp; omega)
    have qa3 := Dr.cls_cell (M := [w.heap.size + 2, w.heap.size + 3]) ((hb1.cell (p := ⟨bx, ox + a * 5 + 3, none⟩) hbx).trans a3) (by simp; omega)
    have qa4 := Dr.cls_cell (M := [w.heap.size + 2, w.heap.size + 3]) ((hb1.cell (p := ⟨bx, ox + a * 5 + 4, none⟩) hbx).trans a4) (by simp; omega)
    have qb0 := Dr.cls_cell (M := [w.heap.size + 2, w.heap.size + 3]) ((hb1.cell (p := ⟨bx, ox + b * 5, none⟩) hbx).trans b0) (by simp; omega)
    have qb1 := Dr.cls_cell (M := [w.heap.size + 2, w.heap.size + 3]) ((hb1.cell (p := ⟨bx, ox + b * 5 + 1, none⟩) hbx).trans b1) (by simp; omega)
    have qb2 := Dr.cls_cell (M := [w.heap.size + 2, w.heap.size + 3]) ((hb1.cell (p := ⟨bx, ox + b * 5 + 2, none⟩) hbx).trans b2) (by simp; omega)
    have qb3 := Dr.cls_cell (M := [w.heap.size + 2, w.heap.size + 3]) ((hb1.cell (p := ⟨bx, ox + b * 5 + 3, none⟩) hbx).trans b3) (by simp; omega)
    have qb4 := Dr.cls_cell (M := [w.heap.size + 2, w.heap.size + 3]) ((hb1.cell (p := ⟨bx, ox + b * 5 + 4, none⟩) hbx).trans b4) (by simp; omega)
    refine Dr.plan_q (l := [_, _, _, _, _, _, _, _, _, _]) rfl (fun K hK => ?_)
    iterate 10 (go_big_quiet_step (fail))
    refine wpQuiet_nil (hK _ ?_); clear hK K
    clear q0 qa0 qa1 qa2 qa3 qa4 qb0 qb1 qb2 qb3 qb4
    refine Dr.plan_e2 ?_ ?_
    · refine Dr.plan_e rfl (by rfl) (fun K hK => ?_)
      go_wp2_with fail
      refine hK _ _ (.of (ext_alloc _ _)) ?_; clear hK K
      refine Dr.plan_e rfl (by rfl) (fun K hK => ?_)
      go_wp2_with fail
      refine hK _ _ (.of (ext_alloc _ _)) ?_; clear hK K
      have n1 := (Blk.new W 82 [.int .i64 0, .int .i64 0, .int .u16 0, .slice none 0 0, .bool false]).alloc (.cells #[.int .i64 0, .int .i64 0, .int .u16 0, .slice none 0 0, .bool false] 82)
      have n2 := Blk.new (W.alloc (.cells #[.int .i64 0, .int .i64 0, .int .u16 0, .slice none 0 0, .bool false] 82)) 82 [.int .i64 0, .int .i64 0, .int .u16 0, .slice none 0 0, .bool false]
      have hbb : Below w.heap.size w ((W.alloc (.cells #[.int .i64 0, .int .i64 0, .int .u16 0, .slice none 0 0, .bool false] 82)).alloc (.cells #[.int .i64 0, .int .i64 0, .int .u16 0, .slice none 0 0, .bool false] 82)) := (hb1.alloc (by omega) _).alloc (by simp; omega) _
      have hSS := (hS1.alloc (.cells #[.int .i64 0, .int .i64 0, .int .u16 0, .slice none 0 0, .bool false] 82)).alloc (.cells #[.int .i64 0, .int .i64 0, .int .u16 0, .slice none 0 0, .bool false] 82)
      have hMM := (hM1.alloc (.cells #[.int .i64 0, .int .i64 0, .int .u16 0, .slice none 0 0, .bool false] 82)).alloc (.cells #[.int .i64 0, .int .i64 0, .int .u16 0, .slice none 0 0, .bool false] 82)
      have hss : ((W.alloc (.cells #[.int .i64 0, .int .i64 0, .int .u16 0, .slice none 0 0, .bool false] 82)).alloc (.cells #[.int .i64 0, .int .i64 0, .int .u16 0, .slice none 0 0, .bool false] 82)).heap.size = w.heap.size + 4 := by simp [hsz1]
      rw [World.size_alloc, hsz1, show w.heap.size + 2 + 1 = w.heap.size + 3 by omega] at n2
      rw [hsz1] at n1
      change Blk ((W.alloc (.cells #[.int .i64 0, .int .i64 0, .int .u16 0, .slice none 0 0, .bool false] 82)).alloc (.cells #[.int .i64 0, .int .i64 0, .int .u16 0, .slice none 0 0, .bool false] 82)) _ _ _ at n1 n2

      generalize (W.alloc (.cells #[.int .i64 0, .int .i64 0, .int .u16 0, .slice none 0 0, .bool false] 82)).alloc (.cells #[.int .i64 0, .int .i64 0, .int .u16 0, .slice none 0 0, .bool false] 82) = W2 at *
      clear hb1 hS1 hM1 hsz1
      have z0 : W2.cell? ⟨w.heap.size + 2, 0, none⟩ = _ := n1.cell (i := 0) rfl
      have f0 := n1.free 0
      have z1 : W2.cell? ⟨w.heap.size + 2, 1, none⟩ = _ := n1.cell (i := 1) rfl
      have f1 := n1.free 1
      have z2 : W2.cell? ⟨w.heap.size + 2, 2, none⟩ = _ := n1.cell (i := 2) rfl
      have f2 := n1.free 2
      have z3 : W2.cell? ⟨w.heap.size + 2, 3, none⟩ = _ := n1.cell (i := 3) rfl
      have f3 := n1.free 3
      have z4 : W2.cell? ⟨w.heap.size + 2, 4, none⟩ = _ := n1.cell (i := 4) rfl
      have f4 := n1.free 4
      refine Dr.plan_e rfl (by rfl) (fun K hK => ?_)
      go_wp2_with fail
      have e1 : puts W2 (w.heap.size + 2) 0 (AcV.enc x) = (((((W2.setCell ⟨w.heap.size + 2, 0, none⟩ (.int .i64 x.a.min)).setCell ⟨w.heap.size + 2, 1, none⟩ (.int .i64 x.a.ten)).setCell ⟨w.heap.size + 2, 2, none⟩ (.int .u16 x.a.rigs)).setCell ⟨w.heap.size + 2, 3, none⟩ (.slice x.C x.a.casts.length x.c)).setCell ⟨w.heap.size + 2, 4, none⟩ (.bool x.a.spare)) := rfl
      have p1 := n1.put_eq (AcV.enc x) e1 rfl
      have b1' := bel_put_eq (AcV.enc x) e1
      have hbb2 := hbb.trans (Dr.Bel.old (n := w.heap.size) b1' (by omega) (by simp))
      have hSS2 := b1'.blk hSS (by simp)
      have hMM2 := b1'.blk hMM (by simp)
      have p2 := b1'.blk n2 (by simp)
      have hss2 : (((((W2.setCell ⟨w.heap.size + 2, 0, none⟩ (.int .i64 x.a.min)).setCell ⟨w.heap.size + 2, 1, none⟩ (.int .i64 x.a.ten)).setCell ⟨w.heap.size + 2, 2, none⟩ (.int .u16 x.a.rigs)).setCell ⟨w.heap.size + 2, 3, none⟩ (.slice x.C x.a.casts.length x.c)).setCell ⟨w.heap.size + 2, 4, none⟩ (.bool x.a.spare)).heap.size = w.heap.size + 4 := by simp [World.setCell, hss]
      refine hK _ _ (b1'.wide (by simp)) ?_; clear hK K
      clear e1 b1' hbb hSS hMM n1 n2 hss z0 z1 z2 z3 z4 f0 f1 f2 f3 f4
      generalize (((((W2.setCell ⟨w.heap.size + 2, 0, none⟩ (.int .i64 x.a.min)).setCell ⟨w.heap.size + 2, 1, none⟩ (.int .i64 x.a.ten)).setCell ⟨w.heap.size + 2, 2, none⟩ (.int .u16 x.a.rigs)).setCell ⟨w.heap.size + 2, 3, none⟩ (.slice x.C x.a.casts.length x.c)).setCell ⟨w.heap.size + 2, 4, none⟩ (.bool x.a.spare)) = W3 at *
      have z0 : W3.cell? ⟨w.heap.size + 3, 0, none⟩ = _ := p2.cell (i := 0) rfl
      have f0 := p2.free 0
      have z1 : W3.cell? ⟨w.heap.size + 3, 1, none⟩ = _ := p2.cell (i := 1) rfl
      have f1 := p2.free 1
      have z2 : W3.cell? ⟨w.heap.size + 3, 2, none⟩ = _ := p2.cell (i := 2) rfl
      have f2 := p2.free 2
      have z3 : W3.cell? ⟨w.heap.size + 3, 3, none⟩ = _ := p2.cell (i := 3) rfl
      have f3 := p2.free 3
      have z4 : W3.cell? ⟨w.heap.size + 3, 4, none⟩ = _ := p2.cell (i := 4) rfl
      have f4 := p2.free 4
      refine Dr.plan_done (tl := [_]) rfl ?_
      go_wp2
      have e2 : puts W3 (w.heap.size + 3) 0 (AcV.enc y) = (((((W3.setCell ⟨w.heap.size + 3, 0, none⟩ (.int .i64 y.a.min)).setCell ⟨w.heap.size + 3, 1, none⟩ (.int .i64 y.a.ten)).setCell ⟨w.heap.size + 3, 2, none⟩ (.int .u16 y.a.rigs)).setCell ⟨w.heap.size + 3, 3, none⟩ (.slice y.C y.a.casts.length y.c)).setCell ⟨w.heap.size + 3, 4, none⟩ (.bool y.a.spare)) := rfl
      have r1 := p2.put_eq (AcV.enc y) e2 rfl
      have b2' := bel_put_eq (AcV.enc y) e2
      have hbb3 := hbb2.trans (Dr.Bel.old (n := w.heap.size) b2' (by omega) (by simp))
      have hSS3 := b2'.blk hSS2 (by simp)
      have hMM3 := b2'.blk hMM2 (by simp)
      have r2 := b2'.blk p1 (by simp)
      have hss3 : (((((W3.setCell ⟨w.heap.size + 3, 0, none⟩ (.int .i64 y.a.min)).setCell ⟨w.heap.size + 3, 1, none⟩ (.int .i64 y.a.ten)).setCell ⟨w.heap.size + 3, 2, none⟩ (.int .u16 y.a.rigs)).setCell ⟨w.heap.size + 3, 3, none⟩ (.slice y.C y.a.casts.length y.c)).setCell ⟨w.heap.size + 3, 4, none⟩ (.bool y.a.spare)).heap.size = w.heap.size + 4 := by simp [World.setCell, hss2]
      clear e2 b2' z0 z1 z2 z3 z4 f0 f1 f2 f3 f4 p1 p2
      generalize (((((W3.setCell ⟨w.heap.size + 3, 0, none⟩ (.int .i64 y.a.min)).setCell ⟨w.heap.size + 3, 1, none⟩ (.int .i64 y.a.ten)).setCell ⟨w.heap.size + 3, 2, none⟩ (.int .u16 y.a.rigs)).setCell ⟨w.heap.size + 3, 3, none⟩ (.slice y.C y.a.casts.length y.c)).setCell ⟨w.heap.size + 3, 4, none⟩ (.bool y.a.spare)) = W4 at *
      go_meet
      case rel => exact ⟨w.heap.size + 2, w.heap.size + 3, rfl, rfl, ⟨hbb3, hSS3, hMM3, r2, r1⟩, by omega, by omega, hss3⟩
    · refine Dr.plan_e rfl (by rfl) (fun K hK => ?_)
      go_wp2_with fail
      refine hK _ _ (.of (ext_alloc _ _)) ?_; clear hK K
      refine Dr.plan_e rfl (by rfl) (fun K hK => ?_)
      go_wp2_with fail
      refine hK _ _ (.of (ext_alloc _ _)) ?_; clear hK K
      have n1 := (Blk.new W 82 [.int .i64 0, .int .i64 0, .int .u16 0, .slice none 0 0, .bool false]).alloc (.cells #[.int .i64 0, .int .i64 0, .int .u16 0, .slice none 0 0, .bool false] 82)
      have n2 := Blk.new (W.alloc (.cells #[.int .i64 0, .int .i64 0, .int .u16 0, .slice none 0 0, .bool false] 82)) 82 [.int .i64 0, .int .i64 0, .int .u16 0, .slice none 0 0, .bool false]
      have hbb : Below w.heap.size w ((W.alloc (.cells #[.int .i64 0, .int .i64 0, .int .u16 0, .slice none 0 0, .bool false] 82)).alloc (.cells #[.int .i64 0, .int .i64 0, .int .u16 0, .slice none 0 0, .bool false] 82)) := (hb1.alloc (by omega) _).alloc (by simp; omega) _
      have hSS := (hS1.alloc (.cells #[.int .i64 0, .int .i64 0, .int .u16 0, .slice none 0 0, .bool false] 82)).alloc (.cells #[.int .i64 0, .int .i64 0, .int .u16 0, .slice none 0 0, .bool false] 82)
      have hMM := (hM1.alloc (.cells #[.int .i64 0, .int .i64 0, .int .u16 0, .slice none 0 0, .bool false] 82)).alloc (.cells #[.int .i64 0, .int .i64 0, .int .u16 0, .slice none 0 0, .bool false] 82)
      have hss : ((W.alloc (.cells #[.int .i64 0, .int .i64 0, .int .u16 0, .slice none 0 0, .bool false] 82)).alloc (.cells #[.int .i64 0, .int .i64 0, .int .u16 0, .slice none 0 0, .bool false] 82)).heap.size = w.heap.size + 4 := by simp [hsz1]
      rw [World.size_alloc, hsz1, show w.heap.size + 2 + 1 = w.heap.size + 3 by omega] at n2
      rw [hsz1] at n1
      change Blk ((W.alloc (.cells #[.int .i64 0, .int .i64 0, .int .u16 0, .slice none 0 0, .bool false] 82)).alloc (.cells #[.int .i64 0, .int .i64 0, .int .u16 0, .slice none 0 0, .bool false] 82)) _ _ _ at n1 n2

      generalize (W.alloc (.cells #[.int .i64 0, .int .i64 0, .int .u16 0, .slice none 0 0, .bool false] 82)).alloc (.cells #[.int .i64 0, .int .i64 0, .int .u16 0, .slice none 0 0, .bool false] 82) = W2 at *
      clear hb1 hS1 hM1 hsz1
      have z0 : W2.cell? ⟨w.heap.size + 3, 0, none⟩ = _ := n2.cell (i := 0) rfl
      have f0 := n2.free 0
      have z1 : W2.cell? ⟨w.heap.size + 3, 1, none⟩ = _ := n2.cell (i := 1) rfl
      have f1 := n2.free 1
      have z2 : W2.cell? ⟨w.heap.size + 3, 2, none⟩ = _ := n2.cell (i := 2) rfl
      have f2 := n2.free 2
      have z3 : W2.cell? ⟨w.heap.size + 3, 3, none⟩ = _ := n2.cell (i := 3) rfl
      have f3 := n2.free 3
      have z4 : W2.cell? ⟨w.heap.size + 3, 4, none⟩ = _ := n2.cell (i := 4) rfl
      have f4 := n2.free 4
      refine Dr.plan_e rfl (by rfl) (fun K hK => ?_)
      go_wp2_with fail
      have e1 : puts W2 (w.heap.size + 3) 0 (AcV.enc x) = (((((W2.setCell ⟨w.heap.size + 3, 0, none⟩ (.int .i64 x.a.min)).setCell ⟨w.heap.size + 3, 1, none⟩ (.int .i64 x.a.ten)).setCell ⟨w.heap.size + 3, 2, none⟩ (.int .u16 x.a.rigs)).setCell ⟨w.heap.size + 3, 3, none⟩ (.slice x.C x.a.casts.length x.c)).setCell ⟨w.heap.size + 3, 4, none⟩ (.bool x.a.spare)) := rfl
      have p1 := n2.put_eq (AcV.enc x) e1 rfl
      have b1' := bel_put_eq (AcV.enc x) e1
      have hbb2 := hbb.trans (Dr.Bel.old (n := w.heap.size) b1' (by omega) (by simp))
      have hSS2 := b1'.blk hSS (by simp)
      have hMM2 := b1'.blk hMM (by simp)
      have p2 := b1'.blk n1 (by simp)
      have hss2 : (((((W2.setCell ⟨w.heap.size + 3, 0, none⟩ (.int .i64 x.a.min)).setCell ⟨w.heap.size + 3, 1, none⟩ (.int .i64 x.a.ten)).setCell ⟨w.heap.size + 3, 2, none⟩ (.int .u16 x.a.rigs)).setCell ⟨w.heap.size + 3, 3, none⟩ (.slice x.C x.a.casts.length x.c)).setCell ⟨w.heap.size + 3, 4, none⟩ (.bool x.a.spare)).heap.size = w.heap.size + 4 := by simp [World.setCell, hss]
      refine hK _ _ (b1'.wide (by simp)) ?_; clear hK K
      clear e1 b1' hbb hSS hMM n1 n2 hss z0 z1 z2 z3 z4 f0 f1 f2 f3 f4
      generalize (((((W2.setCell ⟨w.heap.size + 3, 0, none⟩ (.int .i64 x.a.min)).setCell ⟨w.heap.size + 3, 1, none⟩ (.int .i64 x.a.ten)).setCell ⟨w.heap.size + 3, 2, none⟩ (.int .u16 x.a.rigs)).setCell ⟨w.heap.size + 3, 3, none⟩ (.slice x.C x.a.casts.length x.c)).setCell ⟨w.heap.size + 3, 4, none⟩ (.bool x.a.spare)) = W3 at *
      have z0 : W3.cell? ⟨w.heap.size + 2, 0, none⟩ = _ := p2.cell (i := 0) rfl
      have f0 := p2.free 0
      have z1 : W3.cell? ⟨w.heap.size + 2, 1, none⟩ = _ := p2.cell (i := 1) rfl
      have f1 := p2.free 1
      have z2 : W3.cell? ⟨w.heap.size + 2, 2, none⟩ = _ := p2.cell (i := 2) rfl
      have f2 := p2.free 2
      have z3 : W3.cell? ⟨w.heap.size + 2, 3, none⟩ = _ := p2.cell (i := 3) rfl
      have f3 := p2.free 3
      have z4 : W3.cell? ⟨w.heap.size + 2, 4, none⟩ = _ := p2.cell (i := 4) rfl
      have f4 := p2.free 4
      refine Dr.plan_done (tl := [_]) rfl ?_
      go_wp2
      have e2 : puts W3 (w.heap.size + 2) 0 (AcV.enc y) = (((((W3.setCell ⟨w.heap.size + 2, 0, none⟩ (.int .i64 y.a.min)).setCell ⟨w.heap.size + 2, 1, none⟩ (.int .i64 y.a.ten)).setCell ⟨w.heap.size + 2, 2, none⟩ (.int .u16 y.a.rigs)).setCell ⟨w.heap.size + 2, 3, none⟩ (.slice y.C y.a.casts.length y.c)).setCell ⟨w.heap.size + 2, 4, none⟩ (.bool y.a.spare)) := rfl
      have r1 := p2.put_eq (AcV.enc y) e2 rfl
      have b2' := bel_put_eq (AcV.enc y) e2
      have hbb3 := hbb2.trans (Dr.Bel.old (n := w.heap.size) b2' (by omega) (by simp))
      have hSS3 := b2'.blk hSS2 (by simp)
      have hMM3 := b2'.blk hMM2 (by simp)
      have r2 := b2'.blk p1 (by simp)
      have hss3 : (((((W3.setCell ⟨w.heap.size + 2, 0, none⟩ (.int .i64 y.a.min)).setCell ⟨w.heap.size + 2, 1, none⟩ (.int .i64 y.a.ten)).setCell ⟨w.heap.size + 2, 2, none⟩ (.int .u16 y.a.rigs)).setCell ⟨w.heap.size + 2, 3, none⟩ (.slice y.C y.a.casts.length y.c)).setCell ⟨w.heap.size + 2, 4, none⟩ (.bool y.a.spare)).heap.size = w.heap.size + 4 := by simp [World.setCell, hss2]
      clear e2 b2' z0 z1 z2 z3 z4 f0 f1 f2 f3 f4 p1 p2
      generalize (((((W3.setCell ⟨w.heap.size + 2, 0, none⟩ (.int .i64 y.a.min)).setCell ⟨w.heap.size + 2, 1, none⟩ (.int .i64 y.a.ten)).setCell ⟨w.heap.size + 2, 2, none⟩ (.int .u16 y.a.rigs)).setCell ⟨w.heap.size + 2, 3, none⟩ (.slice y.C y.a.casts.length y.c)).setCell ⟨w.heap.size + 2, 4, none⟩ (.bool y.a.spare)) = W4 at *
      go_meet
      case rel => exact ⟨w.heap.size + 3, w.heap.size + 2, rfl, rfl, ⟨hbb3, hSS3, hMM3, r2, r1⟩, by omega, by omega, hss3⟩
  case rest =>
    clear a0 a1 a2 a3 a4 b0 b1 b2 b3 b4 hb0 hS hM hsz ha hb
    obtain ⟨X, Y, rfl, rfl, hI, hX, hY, -⟩ := hcut
    obtain ⟨c1, hc1, hn1, hb1⟩ := andNot16 y.a.rigs x.a.rigs hry
    obtain ⟨c2, hc2, hn2, hb2⟩ := andNot16 x.a.rigs y.a.rigs hrx
    have hl1 : ∀ z : Mb c1, z.1 < s.ins.length := fun z => bit_lt hRy (by have := hb1 z.1; rw [z.2] at this; cases h : y.a.rigs.testBit z.1 <;> simp [h] at this ⊢)
    have hl2 : ∀ z : Mb c2, z.1 < s.ins.length := fun z => bit_lt hRx (by have := hb2 z.1; rw [z.2] at this; cases h : x.a.rigs.testBit z.1 <;> simp [h] at this ⊢)
    have hm1 := less_memb hb1
    have hm2 := less_memb hb2
    have HN1 := Lib.hid hm1
    have HN2 := Lib.hid hm2
    clear hb1 hb2 hm1 hm2 hRx hRy
    have x2 : wc.cell? ⟨Y, 2, none⟩ = _ := hI.by_.cell rfl
    have x3 : wc.cell? ⟨X, 2, none⟩ = _ := hI.bx.cell rfl
    have CM := Lib.hid (members_any c1 wc)
    have hb1 := ext_alloc wc (.cells #[.int .u16 c1] 47)
    have hBs := hI.bl.size
    have hX1 := hI.bx.lt
    have hY1 := hI.by_.lt
    have hM1 := hI.bm.lt
    have hI1 := hI.ext hb1
    have hbs : (wc.alloc (.cells #[.int .u16 c1] 47)).cell? ⟨wc.heap.size, 0, none⟩ = some (.int .u16 c1) := by simp
    have hsz1 : (wc.alloc (.cells #[.int .u16 c1] 47)).heap.size = wc.heap.size + 1 := by simp
    generalize wc.heap.size = Bs at *
    go_wp2_with fail
    refine CM.out.mono ?_; rintro e w1 ⟨rfl, rfl⟩
    go_wp2
    clear x2 x3 CM hI hb1
    generalize wc.alloc (.cells #[.int .u16 c1] 47) = w1 at *
    generalize ha : Act.mk _ _ = a0
    refine wpIn_wide.1 (wpIn_rangeFunc_ownH (F := Fence.wide) (n := 20) rfl (by omega) (gf := 97) (lb := #[.pointer (some ⟨Bs, 0, none⟩)]) (by rw [← ha]; rfl) trivial (enters_of Try.func97 (by kernel_rfl) rfl)
      (mem_stops c1 hc1 Fence.wide 19 trivial rfl (by omega) Bs w.heap.size w1 hbs (by omega))
      (fun h k => h.trans k) (Kept.put (by omega) (by omega)) (Below.refl _ _) (fun _ => rfl)
      (fun pre W => ChI w s p X Y x y (isum (pre.map fun z => s.ins.getD z.1 0)) W ∧ w1.heap.size ≤ W.heap.size)
      (fun _ _ _ => False) ?own4 (fun _ _ _ _ _ hs _ _ => hs) ?start4
      (fun x a' W => a' = { tmps := (a0.tmps.setIfInBounds 28 (.int .i64 (x.1 : Int))).setIfInBounds 10 (.int .i64 (x.1 : Int)), defers := [] })
      (fun _ _ _ _ _ _ hs _ _ => hs)
      ?assign4 ?body4 ?done4 ?stop4)
    case own4 =>
      rintro pre X Y row ⟨h1, h2⟩ hg hr
      exact ⟨h1.grown hg (fun r e => ⟨by have := (hr r e).1; omega, (hr r e).2⟩), Nat.le_trans h2 hg.size⟩
    case start4 => exact ⟨by simpa [isum] using hI1, Nat.le_refl _⟩
    case assign4 =>
      subst ha
      rintro l pre z W K hi hK
      dsimp only
      gi_wp2
      exact hK _ _ (KeepsFrom.refl _ _) ⟨Below.refl _ _, rfl⟩ hi rfl
    case body4 =>
      subst ha
      rintro l pre z a' W hl - ⟨hI, hsz⟩ rfl hlt
      simp only [List.setIfInBounds_toArray, List.set_cons_succ, List.set_cons_zero]
      have hR := Rnd.refl w1.heap.size w.heap.size Bs W
      have hsb := isum_map_bd (fun z : Mb c1 => s.ins.getD z.1 0) pre 30 (fun z _ => Sh.getD_bd hins (by omega) z.1)
      have hvb := Sh.getD_bd hins (by omega) z.1
      have Hsn := Lib.hid (isum_snoc (fun k => s.ins.getD k 0) pre z)
      have hz := hl1 z
      gi_upto_region 4 with fail
      have hIe := hI.ext (ext_drew W)
      have hRe := hR.ext (ext_drew W) (by omega) (by omega)
      have hsze : w1.heap.size ≤ W.drew.heap.size := hsz
      refine Dr.wpIn_region_plan rfl ?q4 7 [] (.q [0, 1, 2, 3, 4, 5, 6] .done) (by kernel_rfl) (by kernel_rfl) (by kernel_rfl) ?_
      case q4 => rintro ⟨_, _, h⟩; exact h
      clear hI hR
      generalize W.drew = W2 at *
      obtain ⟨bi, oi, hpI, -, ci⟩ := (hI0.ext hIe.bl).at1 (k := z.1) (hl1 z) rfl
      have q0 := Dr.cell0 (hIe.bm.cell (i := 0) rfl)
      have q1 := hIe.bs.cell (i := 2) rfl
      rw [hpI] at q1
      have q1 := Dr.cell0 q1
      have q2 := Dr.cell0 ci
      have hz0 : (0 : Int) ≤ (z.1 : Int) := by omega
      have hzn : (z.1 : Int) < (s.ins.length : Int) := by have := (hl1 z); omega
      have hgv : s.ins.getD z.1 0 = s.ins[z.1]'((hl1 z)) := by simp [(hl1 z)]
      rw [hgv] at Hsn hvb
      clear hgv hpI ci
      generalize s.ins[z.1]'((hl1 z)) = v at *
      have hm0 := hM0
      generalize isum (pre.map fun z => s.ins.getD z.1 0) = sm at *
      refine Dr.plan_q (l := [_, _, _, _, _, _, _]) rfl (fun K hK => ?_)
      iterate 7 (go_big_quiet_step (fail))
      refine wpQuiet_nil (hK _ ?_); clear hK K
      clear q0 q1 q2
      have f0 := hIe.bm.free 0
      have r0 : W2.cell? ⟨w.heap.size + 1, 0, none⟩ = _ := hIe.bm.cell (i := 0) rfl
      refine Dr.plan_done (tl := [_]) rfl ?_
      go_wp2
      have hR2 := hRe.setCell (p := ⟨w.heap.size + 1, 0, none⟩) (by simp) (by simp; omega) (.int .i64 (sm + v))
      have hI2 := hIe.set (by omega) (by omega) (sm + v)
      refine ⟨hR2.kf, hR2.kp, by rw [Hsn.out, show sm + v = sm + v from rfl]; exact hI2, by have := hR2.sz; omega⟩
    case stop4 =>
      rintro D' cc pre W _ _ h _
      exact h.elim
    case done4 =>
      subst ha
      rintro D1 ys W hD hys ⟨hI, hsz⟩ hK1
      have hs1 := isum_val (fun k => s.ins.getD k 0) ys _ hys
      rw [HN1.out] at hs1
      rw [hs1] at hI
      clear hs1 hys
      generalize hs1 : isum ((Sh.less y.a.rigs x.a.rigs).map fun k => s.ins.getD k 0) = m1 at *
      have hm1b := isum_map_bd (fun k => s.ins.getD k 0) (Sh.less y.a.rigs x.a.rigs) 30 (fun k _ => Sh.getD_bd hins (by omega) k)
      have hl9 := Sh.less_len y.a.rigs x.a.rigs
      rw [hs1] at hm1b
      have hD1g : w.heap.size + 1 < D1 := by omega
      have hD1l : D1 < W.heap.size := (Array.getElem?_eq_some_iff.1 hK1).1
      clear hs1 hbs hI1 hsz1 hD hsz hBs hX1 hY1 hM1
      have x2 : W.cell? ⟨X, 2, none⟩ = _ := hI.bx.cell rfl
      have x3 : W.cell? ⟨Y, 2, none⟩ = _ := hI.by_.cell rfl
      have CM := Lib.hid (members_any c2 W)
      have hb1 := ext_alloc W (.cells #[.int .u16 c2] 47)
      have hBs := hI.bl.size
      have hX1 := hI.bx.lt
      have hY1 := hI.by_.lt
      have hM1 := hI.bm.lt
      have hI1 := hI.ext hb1
      have hbs : (W.alloc (.cells #[.int .u16 c2] 47)).cell? ⟨W.heap.size, 0, none⟩ = some (.int .u16 c2) := by simp
      have hsz1 : (W.alloc (.cells #[.int .u16 c2] 47)).heap.size = W.heap.size + 1 := by simp
      have hD1 : (W.alloc (.cells #[.int .u16 c2] 47)).heap[D1]? = some (.deferred (some [])) := (hb1.block D1 hD1l).trans hK1
      generalize W.heap.size = Bs at *
      go_wp2_with fail
      refine CM.out.mono ?_; rintro e w1 ⟨rfl, rfl⟩
      go_wp2
      clear x2 x3 CM hI hb1
      generalize W.alloc (.cells #[.int .u16 c2] 47) = w1 at *
      generalize ha : Act.mk _ _ = a0
      refine wpIn_wide.1 (wpIn_rangeFunc_ownH (F := Fence.wide) (n := 20) rfl (by omega) (gf := 97) (lb := #[.pointer (some ⟨Bs, 0, none⟩)]) (by rw [← ha]; rfl) trivial (enters_of Try.func97 (by kernel_rfl) rfl)
        (mem_stops c2 hc2 Fence.wide 19 trivial rfl (by omega) Bs w.heap.size w1 hbs (by omega))
        (fun h k => h.trans k) (Kept.put (by omega) (by omega)) (Below.refl _ _) (fun _ => rfl)
        (fun pre W => ChI w s p X Y x y (m1 + isum (pre.map fun z => s.outs.getD z.1 0)) W ∧ w1.heap.size ≤ W.heap.size ∧ W.heap[D1]? = some (.deferred (some [])))
        (fun _ _ _ => False) ?own7 (fun _ _ _ _ _ hs _ _ => hs) ?start7
        (fun x a' W => a' = { tmps := (a0.tmps.setIfInBounds 42 (.int .i64 (x.1 : Int))).setIfInBounds 11 (.int .i64 (x.1 : Int)), defers := [] })
        (fun _ _ _ _ _ _ hs _ _ => hs)
        ?assign7 ?body7 ?done7 ?stop7)
      case own7 =>
        rintro pre X Y row ⟨h1, h2, h3⟩ hg hr
        exact ⟨h1.grown hg (fun r e => ⟨by have := (hr r e).1; omega, (hr r e).2⟩), Nat.le_trans h2 hg.size, (hg.block D1 (Array.getElem?_eq_some_iff.1 h3).1 (fun e => by have := (hr D1 e.symm).1; omega)).trans h3⟩
      case start7 => exact ⟨by simpa [isum] using hI1, Nat.le_refl _, hD1⟩
      case assign7 =>
        subst ha
        rintro l pre z W K hi hK
        dsimp only
        gi_wp2
        exact hK _ _ (KeepsFrom.refl _ _) ⟨Below.refl _ _, rfl⟩ hi rfl
      case body7 =>
        subst ha
        rintro l pre z a' W hl - ⟨hI, hsz, hDp⟩ rfl hlt
        simp only [List.setIfInBounds_toArray, List.set_cons_succ, List.set_cons_zero]
        have hR := Rnd.refl w1.heap.size w.heap.size Bs W
        have hsb := isum_map_bd (fun z : Mb c2 => s.outs.getD z.1 0) pre 30 (fun z _ => Sh.getD_bd houts (by omega) z.1)
        have hvb := Sh.getD_bd houts (by omega) z.1
        have Hsn := Lib.hid (isum_snoc (fun k => s.outs.getD k 0) pre z)
        have hz := hl2 z
        gi_upto_region 7 with fail
        have hIe := hI.ext (ext_drew W)
        have hRe := hR.ext (ext_drew W) (by omega) (by omega)
        have hsze : w1.heap.size ≤ W.drew.heap.size := hsz
        have hDe : W.drew.heap[D1]? = _ := hDp
        refine Dr.wpIn_region_plan rfl ?q7 7 [] (.q [0, 1, 2, 3, 4, 5, 6] .done) (by kernel_rfl) (by kernel_rfl) (by kernel_rfl) ?_
        case q7 => rintro ⟨_, _, h⟩; exact h
        clear hI hR hDp
        generalize W.drew = W2 at *
        obtain ⟨bi, oi, hpI, -, ci⟩ := (hO0.ext hIe.bl).at1 (k := z.1) (show z.1 < s.outs.length by rw [Hoi.out]; exact hz) rfl
        have q0 := Dr.cell0 (hIe.bm.cell (i := 0) rfl)
        have q1 := hIe.bs.cell (i := 3) rfl
        rw [hpI] at q1
        have q1 := Dr.cell0 q1
        have q2 := Dr.cell0 ci
        have hz0 : (0 : Int) ≤ (z.1 : Int) := by omega
        have hzn : (z.1 : Int) < (s.outs.length : Int) := by have := (show z.1 < s.outs.length by rw [Hoi.out]; exact hz); omega
        have hgv : s.outs.getD z.1 0 = s.outs[z.1]'((show z.1 < s.outs.length by rw [Hoi.out]; exact hz)) := by simp [(show z.1 < s.outs.length by rw [Hoi.out]; exact hz)]
        rw [hgv] at Hsn hvb
        clear hgv hpI ci
        generalize s.outs[z.1]'((show z.1 < s.outs.length by rw [Hoi.out]; exact hz)) = v at *
        have hm0 := hM0
        generalize isum (pre.map fun z => s.outs.getD z.1 0) = sm at *
        refine Dr.plan_q (l := [_, _, _, _, _, _, _]) rfl (fun K hK => ?_)
        iterate 7 (go_big_quiet_step (fail))
        refine wpQuiet_nil (hK _ ?_); clear hK K
        clear q0 q1 q2
        have f0 := hIe.bm.free 0
        have r0 : W2.cell? ⟨w.heap.size + 1, 0, none⟩ = _ := hIe.bm.cell (i := 0) rfl
        refine Dr.plan_done (tl := [_]) rfl ?_
        go_wp2
        have hR2 := hRe.setCell (p := ⟨w.heap.size + 1, 0, none⟩) (by simp) (by simp; omega) (.int .i64 (m1 + sm + v))
        have hI2 := hIe.set (by omega) (by omega) (m1 + sm + v)
        refine ⟨hR2.kf, hR2.kp, by rw [Hsn.out, ← Int.add_assoc]; exact hI2, by have := hR2.sz; omega, (Below.heap_setCell W2 ⟨w.heap.size + 1, 0, none⟩ _ D1 (by simp; omega)).trans hDe⟩
      case stop7 =>
        rintro D' cc pre W _ _ h _
        exact h.elim
      case done7 =>
        subst ha
        rintro D2 ys W hD hys ⟨hI, hsz, hD1⟩ hK2
        have hs1 := isum_val (fun k => s.outs.getD k 0) ys _ hys
        rw [HN2.out] at hs1
        rw [hs1] at hI
        clear hs1 hys
        generalize hs2 : isum ((Sh.less x.a.rigs y.a.rigs).map fun k => s.outs.getD k 0) = m2 at *
        have hm2b := isum_map_bd (fun k => s.outs.getD k 0) (Sh.less x.a.rigs y.a.rigs) 30 (fun k _ => Sh.getD_bd houts (by omega) k)
        have hl8 := Sh.less_len x.a.rigs y.a.rigs
        rw [hs2] at hm2b
        have hmq := mul_bd (a := s.dull) (b := max 0 (x.a.ten - y.a.ten)) hdl.1 hdl.2 (n := 100) (by omega) (by omega)
        have Hmm := Lib.hid Hm.out
        have hD2g : w.heap.size + 1 < D2 := by omega
        have hD12 : D1 ≠ D2 := by omega
        clear hs2 hbs hI1 hsz1 hD hsz hBs hX1 hY1 hM1 Hm
        go_upto_region 8 with fail
        refine Dr.wp_region_plan 14 [] (.q [0, 1, 2, 3, 4, 5, 6, 7, 8, 9, 10, 11] (.e1 12 (.q [13] .done))) (by kernel_rfl) (by kernel_rfl) ?_
        have hIe := hI.ext (ext_drew W)
        have hK1e : W.drew.heap[D1]? = _ := hD1
        have hK2e : W.drew.heap[D2]? = _ := hK2
        clear hI hD1 hK2
        generalize W.drew = W2 at *
        have q0 := Dr.cell0 (hIe.bm.cell (i := 0) rfl)
        have q1 := Dr.cell0 (hIe.bs.cell (i := 5) rfl)
        have q2 := Dr.cell0 (hIe.bx.cell (i := 1) rfl)
        have q3 := Dr.cell0 (hIe.by_.cell (i := 1) rfl)
        refine Dr.plan_q (l := [_, _, _, _, _, _, _, _, _, _, _, _]) rfl (fun K hK => ?_)
        iterate 12 (go_big_quiet_step (fail))
        refine wpQuiet_nil (hK _ ?_); clear hK K
        clear q0 q1 q2 q3
        have f0 := hIe.bm.free 0
        have r0 : W2.cell? ⟨w.heap.size + 1, 0, none⟩ = _ := hIe.bm.cell (i := 0) rfl
        refine Dr.plan_e rfl (by rfl) (fun K hK => ?_)
        go_wp2_with fail
        rw [set_self hIe.bm rfl]
        refine hK _ _ (Dr.Bel.refl _ _) ?_; clear hK K
        refine Dr.plan_q (l := [_]) rfl (fun K hK => ?_)
        iterate 1 (go_big_quiet_step (fail))
        refine wpQuiet_nil (hK _ ?_); clear hK K
        refine Dr.plan_end rfl ?_
        go_wp2
        have hrow2 : ∀ r, some D2 = some r → ∃ o : Obj, W2.heap[r]? = some o ∧ o.isCells = false := fun r e => by cases e; exact ⟨_, hK2e, rfl⟩
        have hK1f : (W2.putObj D2 (.deferred none)).heap[D1]? = some (.deferred (some [])) := (World.putObj_heap_other hD12).trans hK1e
        have hrow1 : ∀ r, some D1 = some r → ∃ o : Obj, (W2.putObj D2 (.deferred none)).heap[r]? = some o ∧ o.isCells = false := fun r e => by cases e; exact ⟨_, hK1f, rfl⟩
        have p1 : ((W2.putObj D2 (.deferred none)).putObj D1 (.deferred none)).cell? ⟨w.heap.size + 1, 0, none⟩ = _ := (Blk.kept (Blk.kept hIe.bm (grownBy_putObj' W2 D2 (.deferred none)) hrow2) (grownBy_putObj' _ D1 (.deferred none)) hrow1).cell (i := 0) rfl
        have p4 : Below w.heap.size w ((W2.putObj D2 (.deferred none)).putObj D1 (.deferred none)) :=
          (hIe.bl.trans (belowK_b (w := w) (Nat.le_refl _) W2 D2 _ _ (by omega) hK2e rfl rfl)).trans (belowK_b (w := w) (Nat.le_refl _) _ D1 _ _ (by omega) hK1f rfl rfl)
        refine ⟨by simp, .inl ⟨_, _, rfl, run_takeDeferred hK2e, by simp, .inl ⟨_, _, rfl, run_takeDeferred hK1f, .tuple #[.int .i64 cm, .int .i64 cc], ?_, rfl, p4⟩⟩⟩
        simp [results, Try.results53, go_sem, p1]
        exact ⟨Hmm.out, by have := Hmm.out; have := Hc.out; omega⟩
end
end Go.Proofs.Ytcnidhcdkbfpcaa

/- Walks: change, place, long, tired. -/
import Derived.Test.YtilkoooahoecfaaGreatPgB
/- Walk: the change between two acts. (Printed by mk_prge.py.) -/
namespace Go.Pg
open Go.RowKit Go.Bs Go.Pl
/-- an act where it lies -/
theorem ShM.av' {w : World} {s : Sh} {p : ShP} (h : ShM w s p) {i : Nat} (hi : i < s.acts.length) :
    ∃ x ∈ p.av, x.a = s.act i ∧ ∃ b off, p.A = some ⟨b, off, none⟩ ∧ b < w.heap.size ∧ w.cell? ⟨b, off + i * 5, none⟩ = some (.int .i64 x.a.min) ∧ w.cell? ⟨b, off + i * 5 + 1, none⟩ = some (.int .i64 x.a.ten) ∧ w.cell? ⟨b, off + i * 5 + 2, none⟩ = some (.int .u16 x.a.rigs) ∧
      w.cell? ⟨b, off + i * 5 + 3, none⟩ = some (.slice x.C x.a.casts.length x.c) ∧ w.cell? ⟨b, off + i * 5 + 4, none⟩ = some (.bool x.a.spare) ∧ Cells w x.C 1 encU x.a.casts := by
  have hk : i < p.av.length := by rw [h.len]; exact hi
  obtain ⟨b, off, hA, hb, c0, c1, c2, c3, c4⟩ := h.acts.at5 hk rfl
  have e : (p.av[i]).a = s.act i := by
    rw [Sh.act_eq hi]
    have := h.eq
    have h2 : (p.av.map AcV.a)[i]? = s.acts[i]? := by rw [this]
    simpa [hk, hi] using h2
  exact ⟨_, List.getElem_mem hk, e, b, off, hA, hb, c0, c1, c2, c3, c4, h.casts _ (List.getElem_mem hk)⟩
/-- the state of the reckoning of a change: the show's box, the sum, both acts -/
structure ChI (w : World) (s : Sh) (p : ShP) (X Y : Nat) (x y : AcV) (sum : Int) (W : World) : Prop where
  bl : Below w.heap.size w W
  bs : Blk W w.heap.size 36 (shC s p)
  bm : Blk W (w.heap.size + 1) 3 [.int .i64 sum]
  bx : Blk W X 64 (AcV.enc x)
  by_ : Blk W Y 64 (AcV.enc y)
section
variable {w W W' : World} {s : Sh} {p : ShP} {X Y : Nat} {x y : AcV} {sum : Int}
theorem ChI.ext (h : ChI w s p X Y x y sum W) (hb : Below W.heap.size W W') : ChI w s p X Y x y sum W' := ⟨h.bl.trans (hb.mono h.bl.size), h.bs.ext hb, h.bm.ext hb, h.bx.ext hb, h.by_.ext hb⟩
theorem ChI.grown {row : Option Nat} (h : ChI w s p X Y x y sum W) (hg : W.grownBy W' row) (hr : ∀ r, row = some r → w.heap.size ≤ r ∧ ∃ o : Obj, W.heap[r]? = some o ∧ o.isCells = false) : ChI w s p X Y x y sum W' := by
  have hr' := fun r e => (hr r e).2
  exact ⟨below_grown h.bl h.bl.size hg (fun k e => (hr k e).1), Blk.kept h.bs hg hr', Blk.kept h.bm hg hr', Blk.kept h.bx hg hr', Blk.kept h.by_ hg hr'⟩
theorem ChI.set (h : ChI w s p X Y x y sum W) (hX : w.heap.size + 1 ≠ X) (hY : w.heap.size + 1 ≠ Y) (v : Int) : ChI w s p X Y x y v (W.setCell ⟨w.heap.size + 1, 0, none⟩ (.int .i64 v)) :=
  ⟨h.bl.setCell (by show w.heap.size ≤ w.heap.size + 1; omega) _, h.bs.other (by simp) _, h.bm.set 0 _, h.bx.other (by show X ≠ _; exact Ne.symm hX) _, h.by_.other (by show Y ≠ _; exact Ne.symm hY) _⟩
end
/-- A store of what lies there turns nothing. -/
theorem set_self {w : World} {B T i : Nat} {cs : List Value} {v : Value} (h : Blk w B T cs) (hi : cs[i]? = some v) : w.setCell ⟨B, i, none⟩ v = w := by
  have e : (w.setCell ⟨B, i, none⟩ v).heap = w.heap := by
    apply Array.ext_getElem?
    intro k
    by_cases hk : k = B
    · subst hk
      have h1 := h.set i v
      have h2 : cs.set i v = cs := by
        apply List.ext_getElem?
        intro j
        rw [List.getElem?_set]
        split
        · rename_i hj; subst hj
          split
          · exact hi.symm
          · rename_i hlt; rw [List.getElem?_eq_none (by omega)]
        · rfl
      rw [h2] at h1
      exact Eq.trans h1 (Eq.symm h)
    · exact Below.heap_setCell w ⟨B, i, none⟩ v k hk
  have e2 : w.setCell ⟨B, i, none⟩ v = { w with heap := (w.setCell ⟨B, i, none⟩ v).heap } := rfl
  rw [e2, e]
theorem isum_snoc {s : Nat} (f : Nat → Int) (pre : List (Mb s)) (x : Mb s) : isum ((pre ++ [x]).map fun z => f z.1) = isum (pre.map fun z => f z.1) + f x.1 := by
  rw [List.map_append, isum_append]; simp [isum]
theorem isum_val {s : Nat} (f : Nat → Int) (pre : List (Mb s)) (l : List Nat) (h : pre.map (·.1) = l) : isum (pre.map fun z => f z.1) = isum (l.map f) := by
  rw [← h, List.map_map]; rfl
theorem less_memb {a b c : Nat} (h : ∀ i, c.testBit i = (a.testBit i && !b.testBit i)) : Sh.memb c = Sh.less a b := by
  unfold Sh.memb Sh.less
  congr 1; funext i; exact h i
end Go.Pg
namespace Go.Proofs.YtilkoooahoecfaaGreat
open Go.RowKit Go.Bs Go.Pg Go.Pl Go.Sort
section
attribute [local go_sem] Oper.semAt_some
set_option maxRecDepth 100000 in
set_option maxHeartbeats 8000000 in
theorem change_any (s : Sh) (p : ShP) (a b : Nat) (w : World) (h : ShM w s p) (hok : s.Ok) (ha : a < s.acts.length) (hb : b < s.acts.length) :
    Calls Tryz.prog 15 #[shV s p, .int .i64 a, .int .i64 b] w fun e w' => e = .returned (.tuple #[.int .i64 (s.chM a b), .int .i64 (s.chC a b)]) ∧ Below w.heap.size w w' := by
  obtain ⟨x, hxm, hxa, bx, ox, hA, hbx, a0, a1, a2, a3, a4, -⟩ := h.av' ha
  obtain ⟨y, hym, hya, bx', ox', hA', -, b0, b1, b2, b3, b4, -⟩ := h.av' hb
  rw [hA] at hA'
  obtain ⟨rfl, rfl⟩ : bx = bx' ∧ ox = ox' := by simpa using hA'
  clear hA' hxm hym
  have hrx := (h.bit ha).1
  have hry := (h.bit hb).1
  have hRx := (hok.act ha).rigs
  have hRy := (hok.act hb).rigs
  have htx := (hok.act ha).ten
  have hty := (hok.act hb).ten
  have hdl := hok.dull
  have hM0 := hok.chM a b
  have hC0 := hok.chC a b
  have hins := hok.ins
  have houts := hok.outs
  have Hoi := Lib.hid hok.oi
  have Hm := Lib.hid (show isum ((Sh.less y.a.rigs x.a.rigs).map fun k => s.ins.getD k 0) + isum ((Sh.less x.a.rigs y.a.rigs).map fun k => s.outs.getD k 0) = s.chM a b by rw [hxa, hya]; rfl)
  have Hc := Lib.hid (show s.chM a b + s.dull * max 0 (x.a.ten - y.a.ten) = s.chC a b by rw [hxa, hya]; rfl)
  rw [← hxa] at hrx hRx htx
  rw [← hya] at hry hRy hty
  clear hxa hya hok
  have hI0 := h.ins
  have hO0 := h.outs
  have m3 := h.small.2.2.1
  have m4 := h.small.2.2.2.1
  clear h
  have hIlt : ∀ q, p.I.map (·.block) = some q → 0 < s.ins.length → q < w.heap.size := fun q hq h0 => by
    obtain ⟨b, off, e, hlt, -⟩ := hI0.at1 (k := 0) h0 rfl
    rw [e] at hq; simp at hq; subst hq; exact hlt
  have hOlt : ∀ q, p.O.map (·.block) = some q → 0 < s.outs.length → q < w.heap.size := fun q hq h0 => by
    obtain ⟨b, off, e, hlt, -⟩ := hO0.at1 (k := 0) h0 rfl
    rw [e] at hq; simp at hq; subst hq; exact hlt
  have hsl : ∀ v, shV s p = v → v = .agg #[.slice p.A s.acts.length p.cA, .slice p.R s.rest.length p.cR, .slice p.I s.ins.length p.cI, .slice p.O s.outs.length p.cO, .int .i64 s.cover, .int .i64 s.dull, .slice p.B s.before.length p.cB] := fun v e => e.symm
  rw [hsl _ rfl]
  clear hsl
  have hb0 : Below w.heap.size w ((w.alloc (.cells (shC s p).toArray 36)).alloc (.cells #[.int .i64 0] 3)) := ((Below.refl _ _).alloc (Nat.le_refl _) _).alloc (by simp) _
  have hS := (Blk.new w 36 (shC s p)).alloc (.cells #[.int .i64 0] 3)
  have hM := Blk.new (w.alloc (.cells (shC s p).toArray 36)) 3 [.int .i64 0]
  have hsz : ((w.alloc (.cells (shC s p).toArray 36)).alloc (.cells #[.int .i64 0] 3)).heap.size = w.heap.size + 2 := by simp
  simp only [World.size_alloc] at hM
  generalize hcm : s.chM a b = cm at *
  generalize hcc : s.chC a b = cc at *
  clear hcm hcc
  have HA := Lib.hid hA
  clear hA
  refine (callsIn_wide (n := 20)).1 (callsIn_of_wp_marks Tryz.func15 rfl trivial ?_)
  simp only [Tryz.ntmps15, List.size_toArray, List.length_cons, List.length_nil, Nat.reduceAdd, Nat.reduceSub, Array.replicate_succ, Array.replicate_zero, List.push_toArray, List.append_toArray, List.nil_append, List.cons_append]
  refine wpIn_wide.2 ?_
  go_upto_region 1 with fail
  change Blk ((w.alloc (.cells (shC s p).toArray 36)).alloc (.cells #[.int .i64 0] 3)) _ _ _ at hM
  change Below w.heap.size w ((w.alloc (.cells #[.slice p.A s.acts.length p.cA, .slice p.R s.rest.length p.cR, .slice p.I s.ins.length p.cI, .slice p.O s.outs.length p.cO, .int .i64 s.cover, .int .i64 s.dull, .slice p.B s.before.length p.cB] 36)).alloc (.cells #[.int .i64 0] 3)) at hb0
  change Blk ((w.alloc (.cells #[.slice p.A s.acts.length p.cA, .slice p.R s.rest.length p.cR, .slice p.I s.ins.length p.cI, .slice p.O s.outs.length p.cO, .int .i64 s.cover, .int .i64 s.dull, .slice p.B s.before.length p.cB] 36)).alloc (.cells #[.int .i64 0] 3)) _ _ _ at hS
  change Blk ((w.alloc (.cells #[.slice p.A s.acts.length p.cA, .slice p.R s.rest.length p.cR, .slice p.I s.ins.length p.cI, .slice p.O s.outs.length p.cO, .int .i64 s.cover, .int .i64 s.dull, .slice p.B s.before.length p.cB] 36)).alloc (.cells #[.int .i64 0] 3)) _ _ _ at hM
  change ((w.alloc (.cells #[.slice p.A s.acts.length p.cA, .slice p.R s.rest.length p.cR, .slice p.I s.ins.length p.cI, .slice p.O s.outs.length p.cO, .int .i64 s.cover, .int .i64 s.dull, .slice p.B s.before.length p.cB] 36)).alloc (.cells #[.int .i64 0] 3)).heap.size = _ at hsz
  generalize (w.alloc (.cells #[.slice p.A s.acts.length p.cA, .slice p.R s.rest.length p.cR, .slice p.I s.ins.length p.cI, .slice p.O s.outs.length p.cO, .int .i64 s.cover, .int .i64 s.dull, .slice p.B s.before.length p.cB] 36)).alloc (.cells #[.int .i64 0] 3) = W0 at *
  go_cut [8, 9] from 8 (fun u v W => ∃ X Y, u = .pointer (some ⟨X, 0, none⟩) ∧ v = .pointer (some ⟨Y, 0, none⟩) ∧ ChI w s p X Y x y 0 W ∧ w.heap.size + 2 ≤ X ∧ w.heap.size + 2 ≤ Y ∧ W.heap.size = w.heap.size + 4)
  case first =>
    refine Dr.wp_region_plan 13 [w.heap.size + 2, w.heap.size + 3] (.q [0, 1, 2, 3, 4, 5, 6, 7, 8, 9] (.e2 10 (.e1 11 (.e1 12 .done)) 11 (.e1 10 (.e1 12 .done)))) (by kernel_rfl) (by kernel_rfl) ?_
    have hb1 := hb0.drew
    have hS1 := hS.ext (ext_drew W0)
    have hM1 := hM.ext (ext_drew W0)
    have hsz1 : W0.drew.heap.size = w.heap.size + 2 := hsz
    clear hb0 hS hM hsz
    generalize World.drew _ = W at *
    have q0 : W.cell? ⟨w.heap.size, 0, none⟩ = some (.slice (some ⟨bx, ox, none⟩) s.acts.length p.cA) := by rw [← HA.out]; exact hS1.cell rfl
    have q0 := Dr.cls_cell (M := [w.heap.size + 2, w.heap.size + 3]) q0 (by simp)
    have qa0 := Dr.cls_cell (M := [w.heap.size + 2, w.heap.size + 3]) ((hb1.cell (p := ⟨bx, ox + a * 5, none⟩) hbx).trans a0) (by simp; omega)
    have qa1 := Dr.cls_cell (M := [w.heap.size + 2, w.heap.size + 3]) ((hb1.cell (p := ⟨bx, ox + a * 5 + 1, none⟩) hbx).trans a1) (by simp; omega)
    have qa2 := Dr.cls_cell (M := [w.heap.size + 2, w.heap.size + 3]) ((hb1.cell (p := ⟨bx, ox + a * 5 + 2, none⟩) hbx).trans a2) (by simp; omega)
    have qa3 := Dr.cls_cell (M := [w.heap.size + 2, w.heap.size + 3]) ((hb1.cell (p := ⟨bx, ox + a * 5 + 3, none⟩) hbx).trans a3) (by simp; omega)
    have qa4 := Dr.cls_cell (M := [w.heap.size + 2, w.heap.size + 3]) ((hb1.cell (p := ⟨bx, ox + a * 5 + 4, none⟩) hbx).trans a4) (by simp; omega)
    have qb0 := Dr.cls_cell (M := [w.heap.size + 2, w.heap.size + 3]) ((hb1.cell (p := ⟨bx, ox + b * 5, none⟩) hbx).trans b0) (by simp; omega)
    have qb1 := Dr.cls_cell (M := [w.heap.size + 2, w.heap.size + 3]) ((hb1.cell (p := ⟨bx, ox + b * 5 + 1, none⟩) hbx).trans b1) (by simp; omega)
    have qb2 := Dr.cls_cell (M := [w.heap.size + 2, w.heap.size + 3]) ((hb1.cell (p := ⟨bx, ox + b * 5 + 2, none⟩) hbx).trans b2) (by simp; omega)
    have qb3 := Dr.cls_cell (M := [w.heap.size + 2, w.heap.size + 3]) ((hb1.cell (p := ⟨bx, ox + b * 5 + 3, none⟩) hbx).trans b3) (by simp; omega)
    have qb4 := Dr.cls_cell (M := [w.heap.size + 2, w.heap.size + 3]) ((hb1.cell (p := ⟨bx, ox + b * 5 + 4, none⟩) hbx).trans b4) (by simp; omega)
    refine Dr.plan_q (l := [_, _, _, _, _, _, _, _, _, _]) rfl (fun K hK => ?_)
    iterate 10 (go_big_quiet_step (fail))
    refine wpQuiet_nil (hK _ ?_); clear hK K
    clear q0 qa0 qa1 qa2 qa3 qa4 qb0 qb1 qb2 qb3 qb4
    refine Dr.plan_e2 ?_ ?_
    · refine Dr.plan_e rfl (by rfl) (fun K hK => ?_)
      go_wp2_with fail
      refine hK _ _ (.of (ext_alloc _ _)) ?_; clear hK K
      refine Dr.plan_e rfl (by rfl) (fun K hK => ?_)
      go_wp2_with fail
      refine hK _ _ (.of (ext_alloc _ _)) ?_; clear hK K
      have n1 := (Blk.new W 64 [.int .i64 0, .int .i64 0, .int .u16 0, .slice none 0 0, .bool false]).alloc (.cells #[.int .i64 0, .int .i64 0, .int .u16 0, .slice none 0 0, .bool false] 64)
      have n2 := Blk.new (W.alloc (.cells #[.int .i64 0, .int .i64 0, .int .u16 0, .slice none 0 0, .bool false] 64)) 64 [.int .i64 0, .int .i64 0, .int .u16 0, .slice none 0 0, .bool false]
      have hbb : Below w.heap.size w ((W.alloc (.cells #[.int .i64 0, .int .i64 0, .int .u16 0, .slice none 0 0, .bool false] 64)).alloc (.cells #[.int .i64 0, .int .i64 0, .int .u16 0, .slice none 0 0, .bool false] 64)) := (hb1.alloc (by omega) _).alloc (by simp; omega) _
      have hSS := (hS1.alloc (.cells #[.int .i64 0, .int .i64 0, .int .u16 0, .slice none 0 0, .bool false] 64)).alloc (.cells #[.int .i64 0, .int .i64 0, .int .u16 0, .slice none 0 0, .bool false] 64)
      have hMM := (hM1.alloc (.cells #[.int .i64 0, .int .i64 0, .int .u16 0, .slice none 0 0, .bool false] 64)).alloc (.cells #[.int .i64 0, .int .i64 0, .int .u16 0, .slice none 0 0, .bool false] 64)
      have hss : ((W.alloc (.cells #[.int .i64 0, .int .i64 0, .int .u16 0, .slice none 0 0, .bool false] 64)).alloc (.cells #[.int .i64 0, .int .i64 0, .int .u16 0, .slice none 0 0, .bool false] 64)).heap.size = w.heap.size + 4 := by simp [hsz1]
      rw [World.size_alloc, hsz1, show w.heap.size + 2 + 1 = w.heap.size + 3 by omega] at n2
      rw [hsz1] at n1
      change Blk ((W.alloc (.cells #[.int .i64 0, .int .i64 0, .int .u16 0, .slice none 0 0, .bool false] 64)).alloc (.cells #[.int .i64 0, .int .i64 0, .int .u16 0, .slice none 0 0, .bool false] 64)) _ _ _ at n1 n2

      generalize (W.alloc (.cells #[.int .i64 0, .int .i64 0, .int .u16 0, .slice none 0 0, .bool false] 64)).alloc (.cells #[.int .i64 0, .int .i64 0, .int .u16 0, .slice none 0 0, .bool false] 64) = W2 at *
      clear hb1 hS1 hM1 hsz1
      have z0 : W2.cell? ⟨w.heap.size + 2, 0, none⟩ = _ := n1.cell (i := 0) rfl
      have f0 := n1.free 0
      have z1 : W2.cell? ⟨w.heap.size + 2, 1, none⟩ = _ := n1.cell (i := 1) rfl
      have f1 := n1.free 1
      have z2 : W2.cell? ⟨w.heap.size + 2, 2, none⟩ = _ := n1.cell (i := 2) rfl
      have f2 := n1.free 2
      have z3 : W2.cell? ⟨w.heap.size + 2, 3, none⟩ = _ := n1.cell (i := 3) rfl
      have f3 := n1.free 3
      have z4 : W2.cell? ⟨w.heap.size + 2, 4, none⟩ = _ := n1.cell (i := 4) rfl
      have f4 := n1.free 4
      refine Dr.plan_e rfl (by rfl) (fun K hK => ?_)
      go_wp2_with fail
      have e1 : puts W2 (w.heap.size + 2) 0 (AcV.enc x) = (((((W2.setCell ⟨w.heap.size + 2, 0, none⟩ (.int .i64 x.a.min)).setCell ⟨w.heap.size + 2, 1, none⟩ (.int .i64 x.a.ten)).setCell ⟨w.heap.size + 2, 2, none⟩ (.int .u16 x.a.rigs)).setCell ⟨w.heap.size + 2, 3, none⟩ (.slice x.C x.a.casts.length x.c)).setCell ⟨w.heap.size + 2, 4, none⟩ (.bool x.a.spare)) := rfl
      have p1 := n1.put_eq (AcV.enc x) e1 rfl
      have b1' := bel_put_eq (AcV.enc x) e1
      have hbb2 := hbb.trans (Dr.Bel.old (n := w.heap.size) b1' (by omega) (by simp))
      have hSS2 := b1'.blk hSS (by simp)
      have hMM2 := b1'.blk hMM (by simp)
      have p2 := b1'.blk n2 (by simp)
      have hss2 : (((((W2.setCell ⟨w.heap.size + 2, 0, none⟩ (.int .i64 x.a.min)).setCell ⟨w.heap.size + 2, 1, none⟩ (.int .i64 x.a.ten)).setCell ⟨w.heap.size + 2, 2, none⟩ (.int .u16 x.a.rigs)).setCell ⟨w.heap.size + 2, 3, none⟩ (.slice x.C x.a.casts.length x.c)).setCell ⟨w.heap.size + 2, 4, none⟩ (.bool x.a.spare)).heap.size = w.heap.size + 4 := by simp [World.setCell, hss]
      refine hK _ _ (b1'.wide (by simp)) ?_; clear hK K
      clear e1 b1' hbb hSS hMM n1 n2 hss z0 z1 z2 z3 z4 f0 f1 f2 f3 f4
      generalize (((((W2.setCell ⟨w.heap.size + 2, 0, none⟩ (.int .i64 x.a.min)).setCell ⟨w.heap.size + 2, 1, none⟩ (.int .i64 x.a.ten)).setCell ⟨w.heap.size + 2, 2, none⟩ (.int .u16 x.a.rigs)).setCell ⟨w.heap.size + 2, 3, none⟩ (.slice x.C x.a.casts.length x.c)).setCell ⟨w.heap.size + 2, 4, none⟩ (.bool x.a.spare)) = W3 at *
      have z0 : W3.cell? ⟨w.heap.size + 3, 0, none⟩ = _ := p2.cell (i := 0) rfl
      have f0 := p2.free 0
      have z1 : W3.cell? ⟨w.heap.size + 3, 1, none⟩ = _ := p2.cell (i := 1) rfl
      have f1 := p2.free 1
      have z2 : W3.cell? ⟨w.heap.size + 3, 2, none⟩ = _ := p2.cell (i := 2) rfl
      have f2 := p2.free 2
      have z3 : W3.cell? ⟨w.heap.size + 3, 3, none⟩ = _ := p2.cell (i := 3) rfl
      have f3 := p2.free 3
      have z4 : W3.cell? ⟨w.heap.size + 3, 4, none⟩ = _ := p2.cell (i := 4) rfl
      have f4 := p2.free 4
      refine Dr.plan_done (tl := [_]) rfl ?_
      go_wp2
      have e2 : puts W3 (w.heap.size + 3) 0 (AcV.enc y) = (((((W3.setCell ⟨w.heap.size + 3, 0, none⟩ (.int .i64 y.a.min)).setCell ⟨w.heap.size + 3, 1, none⟩ (.int .i64 y.a.ten)).setCell ⟨w.heap.size + 3, 2, none⟩ (.int .u16 y.a.rigs)).setCell ⟨w.heap.size + 3, 3, none⟩ (.slice y.C y.a.casts.length y.c)).setCell ⟨w.heap.size + 3, 4, none⟩ (.bool y.a.spare)) := rfl
      have r1 := p2.put_eq (AcV.enc y) e2 rfl
      have b2' := bel_put_eq (AcV.enc y) e2
      have hbb3 := hbb2.trans (Dr.Bel.old (n := w.heap.size) b2' (by omega) (by simp))
      have hSS3 := b2'.blk hSS2 (by simp)
      have hMM3 := b2'.blk hMM2 (by simp)
      have r2 := b2'.blk p1 (by simp)
      have hss3 : (((((W3.setCell ⟨w.heap.size + 3, 0, none⟩ (.int .i64 y.a.min)).setCell ⟨w.heap.size + 3, 1, none⟩ (.int .i64 y.a.ten)).setCell ⟨w.heap.size + 3, 2, none⟩ (.int .u16 y.a.rigs)).setCell ⟨w.heap.size + 3, 3, none⟩ (.slice y.C y.a.casts.length y.c)).setCell ⟨w.heap.size + 3, 4, none⟩ (.bool y.a.spare)).heap.size = w.heap.size + 4 := by simp [World.setCell, hss2]
      clear e2 b2' z0 z1 z2 z3 z4 f0 f1 f2 f3 f4 p1 p2
      generalize (((((W3.setCell ⟨w.heap.size + 3, 0, none⟩ (.int .i64 y.a.min)).setCell ⟨w.heap.size + 3, 1, none⟩ (.int .i64 y.a.ten)).setCell ⟨w.heap.size + 3, 2, none⟩ (.int .u16 y.a.rigs)).setCell ⟨w.heap.size + 3, 3, none⟩ (.slice y.C y.a.casts.length y.c)).setCell ⟨w.heap.size + 3, 4, none⟩ (.bool y.a.spare)) = W4 at *
      go_meet
      case rel => exact ⟨w.heap.size + 2, w.heap.size + 3, rfl, rfl, ⟨hbb3, hSS3, hMM3, r2, r1⟩, by omega, by omega, hss3⟩
    · refine Dr.plan_e rfl (by rfl) (fun K hK => ?_)
      go_wp2_with fail
      refine hK _ _ (.of (ext_alloc _ _)) ?_; clear hK K
      refine Dr.plan_e rfl (by rfl) (fun K hK => ?_)
      go_wp2_with fail
      refine hK _ _ (.of (ext_alloc _ _)) ?_; clear hK K
      have n1 := (Blk.new W 64 [.int .i64 0, .int .i64 0, .int .u16 0, .slice none 0 0, .bool false]).alloc (.cells #[.int .i64 0, .int .i64 0, .int .u16 0, .slice none 0 0, .bool false] 64)
      have n2 := Blk.new (W.alloc (.cells #[.int .i64 0, .int .i64 0, .int .u16 0, .slice none 0 0, .bool false] 64)) 64 [.int .i64 0, .int .i64 0, .int .u16 0, .slice none 0 0, .bool false]
      have hbb : Below w.heap.size w ((W.alloc (.cells #[.int .i64 0, .int .i64 0, .int .u16 0, .slice none 0 0, .bool false] 64)).alloc (.cells #[.int .i64 0, .int .i64 0, .int .u16 0, .slice none 0 0, .bool false] 64)) := (hb1.alloc (by omega) _).alloc (by simp; omega) _
      have hSS := (hS1.alloc (.cells #[.int .i64 0, .int .i64 0, .int .u16 0, .slice none 0 0, .bool false] 64)).alloc (.cells #[.int .i64 0, .int .i64 0, .int .u16 0, .slice none 0 0, .bool false] 64)
      have hMM := (hM1.alloc (.cells #[.int .i64 0, .int .i64 0, .int .u16 0, .slice none 0 0, .bool false] 64)).alloc (.cells #[.int .i64 0, .int .i64 0, .int .u16 0, .slice none 0 0, .bool false] 64)
      have hss : ((W.alloc (.cells #[.int .i64 0, .int .i64 0, .int .u16 0, .slice none 0 0, .bool false] 64)).alloc (.cells #[.int .i64 0, .int .i64 0, .int .u16 0, .slice none 0 0, .bool false] 64)).heap.size = w.heap.size + 4 := by simp [hsz1]
      rw [World.size_alloc, hsz1, show w.heap.size + 2 + 1 = w.heap.size + 3 by omega] at n2
      rw [hsz1] at n1
      change Blk ((W.alloc (.cells #[.int .i64 0, .int .i64 0, .int .u16 0, .slice none 0 0, .bool false] 64)).alloc (.cells #[.int .i64 0, .int .i64 0, .int .u16 0, .slice none 0 0, .bool false] 64)) _ _ _ at n1 n2

      generalize (W.alloc (.cells #[.int .i64 0, .int .i64 0, .int .u16 0, .slice none 0 0, .bool false] 64)).alloc (.cells #[.int .i64 0, .int .i64 0, .int .u16 0, .slice none 0 0, .bool false] 64) = W2 at *
      clear hb1 hS1 hM1 hsz1
      have z0 : W2.cell? ⟨w.heap.size + 3, 0, none⟩ = _ := n2.cell (i := 0) rfl
      have f0 := n2.free 0
      have z1 : W2.cell? ⟨w.heap.size + 3, 1, none⟩ = _ := n2.cell (i := 1) rfl
      have f1 := n2.free 1
      have z2 : W2.cell? ⟨w.heap.size + 3, 2, none⟩ = _ := n2.cell (i := 2) rfl
      have f2 := n2.free 2
      have z3 : W2.cell? ⟨w.heap.size + 3, 3, none⟩ = _ := n2.cell (i := 3) rfl
      have f3 := n2.free 3
      have z4 : W2.cell? ⟨w.heap.size + 3, 4, none⟩ = _ := n2.cell (i := 4) rfl
      have f4 := n2.free 4
      refine Dr.plan_e rfl (by rfl) (fun K hK => ?_)
      go_wp2_with fail
      have e1 : puts W2 (w.heap.size + 3) 0 (AcV.enc x) = (((((W2.setCell ⟨w.heap.size + 3, 0, none⟩ (.int .i64 x.a.min)).setCell ⟨w.heap.size + 3, 1, none⟩ (.int .i64 x.a.ten)).setCell ⟨w.heap.size + 3, 2, none⟩ (.int .u16 x.a.rigs)).setCell ⟨w.heap.size + 3, 3, none⟩ (.slice x.C x.a.casts.length x.c)).setCell ⟨w.heap.size + 3, 4, none⟩ (.bool x.a.spare)) := rfl
      have p1 := n2.put_eq (AcV.enc x) e1 rfl
      have b1' := bel_put_eq (AcV.enc x) e1
      have hbb2 := hbb.trans (Dr.Bel.old (n := w.heap.size) b1' (by omega) (by simp))
      have hSS2 := b1'.blk hSS (by simp)
      have hMM2 := b1'.blk hMM (by simp)
      have p2 := b1'.blk n1 (by simp)
      have hss2 : (((((W2.setCell ⟨w.heap.size + 3, 0, none⟩ (.int .i64 x.a.min)).setCell ⟨w.heap.size + 3, 1, none⟩ (.int .i64 x.a.ten)).setCell ⟨w.heap.size + 3, 2, none⟩ (.int .u16 x.a.rigs)).setCell ⟨w.heap.size + 3, 3, none⟩ (.slice x.C x.a.casts.length x.c)).setCell ⟨w.heap.size + 3, 4, none⟩ (.bool x.a.spare)).heap.size = w.heap.size + 4 := by simp [World.setCell, hss]
      refine hK _ _ (b1'.wide (by simp)) ?_; clear hK K
      clear e1 b1' hbb hSS hMM n1 n2 hss z0 z1 z2 z3 z4 f0 f1 f2 f3 f4
      generalize (((((W2.setCell ⟨w.heap.size + 3, 0, none⟩ (.int .i64 x.a.min)).setCell ⟨w.heap.size + 3, 1, none⟩ (.int .i64 x.a.ten)).setCell ⟨w.heap.size + 3, 2, none⟩ (.int .u16 x.a.rigs)).setCell ⟨w.heap.size + 3, 3, none⟩ (.slice x.C x.a.casts.length x.c)).setCell ⟨w.heap.size + 3, 4, none⟩ (.bool x.a.spare)) = W3 at *
      have z0 : W3.cell? ⟨w.heap.size + 2, 0, none⟩ = _ := p2.cell (i := 0) rfl
      have f0 := p2.free 0
      have z1 : W3.cell? ⟨w.heap.size + 2, 1, none⟩ = _ := p2.cell (i := 1) rfl
      have f1 := p2.free 1
      have z2 : W3.cell? ⟨w.heap.size + 2, 2, none⟩ = _ := p2.cell (i := 2) rfl
      have f2 := p2.free 2
      have z3 : W3.cell? ⟨w.heap.size + 2, 3, none⟩ = _ := p2.cell (i := 3) rfl
      have f3 := p2.free 3
      have z4 : W3.cell? ⟨w.heap.size + 2, 4, none⟩ = _ := p2.cell (i := 4) rfl
      have f4 := p2.free 4
      refine Dr.plan_done (tl := [_]) rfl ?_
      go_wp2
      have e2 : puts W3 (w.heap.size + 2) 0 (AcV.enc y) = (((((W3.setCell ⟨w.heap.size + 2, 0, none⟩ (.int .i64 y.a.min)).setCell ⟨w.heap.size + 2, 1, none⟩ (.int .i64 y.a.ten)).setCell ⟨w.heap.size + 2, 2, none⟩ (.int .u16 y.a.rigs)).setCell ⟨w.heap.size + 2, 3, none⟩ (.slice y.C y.a.casts.length y.c)).setCell ⟨w.heap.size + 2, 4, none⟩ (.bool y.a.spare)) := rfl
      have r1 := p2.put_eq (AcV.enc y) e2 rfl
      have b2' := bel_put_eq (AcV.enc y) e2
      have hbb3 := hbb2.trans (Dr.Bel.old (n := w.heap.size) b2' (by omega) (by simp))
      have hSS3 := b2'.blk hSS2 (by simp)
      have hMM3 := b2'.blk hMM2 (by simp)
      have r2 := b2'.blk p1 (by simp)
      have hss3 : (((((W3.setCell ⟨w.heap.size + 2, 0, none⟩ (.int .i64 y.a.min)).setCell ⟨w.heap.size + 2, 1, none⟩ (.int .i64 y.a.ten)).setCell ⟨w.heap.size + 2, 2, none⟩ (.int .u16 y.a.rigs)).setCell ⟨w.heap.size + 2, 3, none⟩ (.slice y.C y.a.casts.length y.c)).setCell ⟨w.heap.size + 2, 4, none⟩ (.bool y.a.spare)).heap.size = w.heap.size + 4 := by simp [World.setCell, hss2]
      clear e2 b2' z0 z1 z2 z3 z4 f0 f1 f2 f3 f4 p1 p2
      generalize (((((W3.setCell ⟨w.heap.size + 2, 0, none⟩ (.int .i64 y.a.min)).setCell ⟨w.heap.size + 2, 1, none⟩ (.int .i64 y.a.ten)).setCell ⟨w.heap.size + 2, 2, none⟩ (.int .u16 y.a.rigs)).setCell ⟨w.heap.size + 2, 3, none⟩ (.slice y.C y.a.casts.length y.c)).setCell ⟨w.heap.size + 2, 4, none⟩ (.bool y.a.spare)) = W4 at *
      go_meet
      case rel => exact ⟨w.heap.size + 3, w.heap.size + 2, rfl, rfl, ⟨hbb3, hSS3, hMM3, r2, r1⟩, by omega, by omega, hss3⟩
  case rest =>
    clear a0 a1 a2 a3 a4 b0 b1 b2 b3 b4 hb0 hS hM hsz ha hb
    obtain ⟨X, Y, rfl, rfl, hI, hX, hY, -⟩ := hcut
    obtain ⟨c1, hc1, hn1, hb1⟩ := andNot16 y.a.rigs x.a.rigs hry
    obtain ⟨c2, hc2, hn2, hb2⟩ := andNot16 x.a.rigs y.a.rigs hrx
    have hl1 : ∀ z : Mb c1, z.1 < s.ins.length := fun z => bit_lt hRy (by have := hb1 z.1; rw [z.2] at this; cases h : y.a.rigs.testBit z.1 <;> simp [h] at this ⊢)
    have hl2 : ∀ z : Mb c2, z.1 < s.ins.length := fun z => bit_lt hRx (by have := hb2 z.1; rw [z.2] at this; cases h : x.a.rigs.testBit z.1 <;> simp [h] at this ⊢)
    have hm1 := less_memb hb1
    have hm2 := less_memb hb2
    have HN1 := Lib.hid hm1
    have HN2 := Lib.hid hm2
    clear hb1 hb2 hm1 hm2 hRx hRy
    have x2 : wc.cell? ⟨Y, 2, none⟩ = _ := hI.by_.cell rfl
    have x3 : wc.cell? ⟨X, 2, none⟩ = _ := hI.bx.cell rfl
    have CM := Lib.hid (members_any c1 wc)
    have hb1 := ext_alloc wc (.cells #[.int .u16 c1] 27)
    have hBs := hI.bl.size
    have hX1 := hI.bx.lt
    have hY1 := hI.by_.lt
    have hM1 := hI.bm.lt
    have hI1 := hI.ext hb1
    have hbs : (wc.alloc (.cells #[.int .u16 c1] 27)).cell? ⟨wc.heap.size, 0, none⟩ = some (.int .u16 c1) := by simp
    have hsz1 : (wc.alloc (.cells #[.int .u16 c1] 27)).heap.size = wc.heap.size + 1 := by simp
    generalize wc.heap.size = Bs at *
    go_wp2_with fail
    refine CM.out.mono ?_; rintro e w1 ⟨rfl, rfl⟩
    go_wp2
    clear x2 x3 CM hI hb1
    generalize wc.alloc (.cells #[.int .u16 c1] 27) = w1 at *
    generalize ha : Act.mk _ _ = a0
    refine wpIn_wide.1 (wpIn_rangeFunc_ownH (F := Fence.wide) (n := 20) rfl (by omega) (gf := 54) (lb := #[.pointer (some ⟨Bs, 0, none⟩)]) (by rw [← ha]; rfl) trivial (enters_of Tryz.func54 (by kernel_rfl) rfl)
      (mem_stops c1 hc1 Fence.wide 19 trivial rfl (by omega) Bs w.heap.size w1 hbs (by omega))
      (fun h k => h.trans k) (Kept.put (by omega) (by omega)) (Below.refl _ _) (fun _ => rfl)
      (fun pre W => ChI w s p X Y x y (isum (pre.map fun z => s.ins.getD z.1 0)) W ∧ w1.heap.size ≤ W.heap.size)
      (fun _ _ _ => False) ?own4 (fun _ _ _ _ _ hs _ _ => hs) ?start4
      (fun x a' W => a' = { tmps := (a0.tmps.setIfInBounds 28 (.int .i64 (x.1 : Int))).setIfInBounds 10 (.int .i64 (x.1 : Int)), defers := [] })
      (fun _ _ _ _ _ _ hs _ _ => hs)
      ?assign4 ?body4 ?done4 ?stop4)
    case own4 =>
      rintro pre X Y row ⟨h1, h2⟩ hg hr
      exact ⟨h1.grown hg (fun r e => ⟨by have := (hr r e).1; omega, (hr r e).2⟩), Nat.le_trans h2 hg.size⟩
    case start4 => exact ⟨by simpa [isum] using hI1, Nat.le_refl _⟩
    case assign4 =>
      subst ha
      rintro l pre z W K hi hK
      dsimp only
      gi_wp2
      exact hK _ _ (KeepsFrom.refl _ _) ⟨Below.refl _ _, rfl⟩ hi rfl
    case body4 =>
      subst ha
      rintro l pre z a' W hl - ⟨hI, hsz⟩ rfl hlt
      simp only [List.setIfInBounds_toArray, List.set_cons_succ, List.set_cons_zero]
      have hR := Rnd.refl w1.heap.size w.heap.size Bs W
      have hsb := isum_map_bd (fun z : Mb c1 => s.ins.getD z.1 0) pre 30 (fun z _ => Sh.getD_bd hins (by omega) z.1)
      have hvb := Sh.getD_bd hins (by omega) z.1
      have Hsn := Lib.hid (isum_snoc (fun k => s.ins.getD k 0) pre z)
      have hz := hl1 z
      gi_upto_region 4 with fail
      have hIe := hI.ext (ext_drew W)
      have hRe := hR.ext (ext_drew W) (by omega) (by omega)
      have hsze : w1.heap.size ≤ W.drew.heap.size := hsz
      refine Dr.wpIn_region_plan rfl ?q4 7 [] (.q [0, 1, 2, 3, 4, 5, 6] .done) (by kernel_rfl) (by kernel_rfl) (by kernel_rfl) ?_
      case q4 => rintro ⟨_, _, h⟩; exact h
      clear hI hR
      generalize W.drew = W2 at *
      obtain ⟨bi, oi, hpI, -, ci⟩ := (hI0.ext hIe.bl).at1 (k := z.1) (hl1 z) rfl
      have q0 := Dr.cell0 (hIe.bm.cell (i := 0) rfl)
      have q1 := hIe.bs.cell (i := 2) rfl
      rw [hpI] at q1
      have q1 := Dr.cell0 q1
      have q2 := Dr.cell0 ci
      have hz0 : (0 : Int) ≤ (z.1 : Int) := by omega
      have hzn : (z.1 : Int) < (s.ins.length : Int) := by have := (hl1 z); omega
      have hgv : s.ins.getD z.1 0 = s.ins[z.1]'((hl1 z)) := by simp [(hl1 z)]
      rw [hgv] at Hsn hvb
      clear hgv hpI ci
      generalize s.ins[z.1]'((hl1 z)) = v at *
      have hm0 := hM0
      generalize isum (pre.map fun z => s.ins.getD z.1 0) = sm at *
      refine Dr.plan_q (l := [_, _, _, _, _, _, _]) rfl (fun K hK => ?_)
      iterate 7 (go_big_quiet_step (fail))
      refine wpQuiet_nil (hK _ ?_); clear hK K
      clear q0 q1 q2
      have f0 := hIe.bm.free 0
      have r0 : W2.cell? ⟨w.heap.size + 1, 0, none⟩ = _ := hIe.bm.cell (i := 0) rfl
      refine Dr.plan_done (tl := [_]) rfl ?_
      go_wp2
      have hR2 := hRe.setCell (p := ⟨w.heap.size + 1, 0, none⟩) (by simp) (by simp; omega) (.int .i64 (sm + v))
      have hI2 := hIe.set (by omega) (by omega) (sm + v)
      refine ⟨hR2.kf, hR2.kp, by rw [Hsn.out, show sm + v = sm + v from rfl]; exact hI2, by have := hR2.sz; omega⟩
    case stop4 =>
      rintro D' cc pre W _ _ h _
      exact h.elim
    case done4 =>
      subst ha
      rintro D1 ys W hD hys ⟨hI, hsz⟩ hK1
      have hs1 := isum_val (fun k => s.ins.getD k 0) ys _ hys
      rw [HN1.out] at hs1
      rw [hs1] at hI
      clear hs1 hys
      generalize hs1 : isum ((Sh.less y.a.rigs x.a.rigs).map fun k => s.ins.getD k 0) = m1 at *
      have hm1b := isum_map_bd (fun k => s.ins.getD k 0) (Sh.less y.a.rigs x.a.rigs) 30 (fun k _ => Sh.getD_bd hins (by omega) k)
      have hl9 := Sh.less_len y.a.rigs x.a.rigs
      rw [hs1] at hm1b
      have hD1g : w.heap.size + 1 < D1 := by omega
      have hD1l : D1 < W.heap.size := (Array.getElem?_eq_some_iff.1 hK1).1
      clear hs1 hbs hI1 hsz1 hD hsz hBs hX1 hY1 hM1
      have x2 : W.cell? ⟨X, 2, none⟩ = _ := hI.bx.cell rfl
      have x3 : W.cell? ⟨Y, 2, none⟩ = _ := hI.by_.cell rfl
      have CM := Lib.hid (members_any c2 W)
      have hb1 := ext_alloc W (.cells #[.int .u16 c2] 27)
      have hBs := hI.bl.size
      have hX1 := hI.bx.lt
      have hY1 := hI.by_.lt
      have hM1 := hI.bm.lt
      have hI1 := hI.ext hb1
      have hbs : (W.alloc (.cells #[.int .u16 c2] 27)).cell? ⟨W.heap.size, 0, none⟩ = some (.int .u16 c2) := by simp
      have hsz1 : (W.alloc (.cells #[.int .u16 c2] 27)).heap.size = W.heap.size + 1 := by simp
      have hD1 : (W.alloc (.cells #[.int .u16 c2] 27)).heap[D1]? = some (.deferred (some [])) := (hb1.block D1 hD1l).trans hK1
      generalize W.heap.size = Bs at *
      go_wp2_with fail
      refine CM.out.mono ?_; rintro e w1 ⟨rfl, rfl⟩
      go_wp2
      clear x2 x3 CM hI hb1
      generalize W.alloc (.cells #[.int .u16 c2] 27) = w1 at *
      generalize ha : Act.mk _ _ = a0
      refine wpIn_wide.1 (wpIn_rangeFunc_ownH (F := Fence.wide) (n := 20) rfl (by omega) (gf := 54) (lb := #[.pointer (some ⟨Bs, 0, none⟩)]) (by rw [← ha]; rfl) trivial (enters_of Tryz.func54 (by kernel_rfl) rfl)
        (mem_stops c2 hc2 Fence.wide 19 trivial rfl (by omega) Bs w.heap.size w1 hbs (by omega))
        (fun h k => h.trans k) (Kept.put (by omega) (by omega)) (Below.refl _ _) (fun _ => rfl)
        (fun pre W => ChI w s p X Y x y (m1 + isum (pre.map fun z => s.outs.getD z.1 0)) W ∧ w1.heap.size ≤ W.heap.size ∧ W.heap[D1]? = some (.deferred (some [])))
        (fun _ _ _ => False) ?own7 (fun _ _ _ _ _ hs _ _ => hs) ?start7
        (fun x a' W => a' = { tmps := (a0.tmps.setIfInBounds 42 (.int .i64 (x.1 : Int))).setIfInBounds 11 (.int .i64 (x.1 : Int)), defers := [] })
        (fun _ _ _ _ _ _ hs _ _ => hs)
        ?assign7 ?body7 ?done7 ?stop7)
      case own7 =>
        rintro pre X Y row ⟨h1, h2, h3⟩ hg hr
        exact ⟨h1.grown hg (fun r e => ⟨by have := (hr r e).1; omega, (hr r e).2⟩), Nat.le_trans h2 hg.size, (hg.block D1 (Array.getElem?_eq_some_iff.1 h3).1 (fun e => by have := (hr D1 e.symm).1; omega)).trans h3⟩
      case start7 => exact ⟨by simpa [isum] using hI1, Nat.le_refl _, hD1⟩
      case assign7 =>
        subst ha
        rintro l pre z W K hi hK
        dsimp only
        gi_wp2
        exact hK _ _ (KeepsFrom.refl _ _) ⟨Below.refl _ _, rfl⟩ hi rfl
      case body7 =>
        subst ha
        rintro l pre z a' W hl - ⟨hI, hsz, hDp⟩ rfl hlt
        simp only [List.setIfInBounds_toArray, List.set_cons_succ, List.set_cons_zero]
        have hR := Rnd.refl w1.heap.size w.heap.size Bs W
        have hsb := isum_map_bd (fun z : Mb c2 => s.outs.getD z.1 0) pre 30 (fun z _ => Sh.getD_bd houts (by omega) z.1)
        have hvb := Sh.getD_bd houts (by omega) z.1
        have Hsn := Lib.hid (isum_snoc (fun k => s.outs.getD k 0) pre z)
        have hz := hl2 z
        gi_upto_region 7 with fail
        have hIe := hI.ext (ext_drew W)
        have hRe := hR.ext (ext_drew W) (by omega) (by omega)
        have hsze : w1.heap.size ≤ W.drew.heap.size := hsz
        have hDe : W.drew.heap[D1]? = _ := hDp
        refine Dr.wpIn_region_plan rfl ?q7 7 [] (.q [0, 1, 2, 3, 4, 5, 6] .done) (by kernel_rfl) (by kernel_rfl) (by kernel_rfl) ?_
        case q7 => rintro ⟨_, _, h⟩; exact h
        clear hI hR hDp
        generalize W.drew = W2 at *
        obtain ⟨bi, oi, hpI, -, ci⟩ := (hO0.ext hIe.bl).at1 (k := z.1) (show z.1 < s.outs.length by rw [Hoi.out]; exact hz) rfl
        have q0 := Dr.cell0 (hIe.bm.cell (i := 0) rfl)
        have q1 := hIe.bs.cell (i := 3) rfl
        rw [hpI] at q1
        have q1 := Dr.cell0 q1
        have q2 := Dr.cell0 ci
        have hz0 : (0 : Int) ≤ (z.1 : Int) := by omega
        have hzn : (z.1 : Int) < (s.outs.length : Int) := by have := (show z.1 < s.outs.length by rw [Hoi.out]; exact hz); omega
        have hgv : s.outs.getD z.1 0 = s.outs[z.1]'((show z.1 < s.outs.length by rw [Hoi.out]; exact hz)) := by simp [(show z.1 < s.outs.length by rw [Hoi.out]; exact hz)]
        rw [hgv] at Hsn hvb
        clear hgv hpI ci
        generalize s.outs[z.1]'((show z.1 < s.outs.length by rw [Hoi.out]; exact hz)) = v at *
        have hm0 := hM0
        generalize isum (pre.map fun z => s.outs.getD z.1 0) = sm at *
        refine Dr.plan_q (l := [_, _, _, _, _, _, _]) rfl (fun K hK => ?_)
        iterate 7 (go_big_quiet_step (fail))
        refine wpQuiet_nil (hK _ ?_); clear hK K
        clear q0 q1 q2
        have f0 := hIe.bm.free 0
        have r0 : W2.cell? ⟨w.heap.size + 1, 0, none⟩ = _ := hIe.bm.cell (i := 0) rfl
        refine Dr.plan_done (tl := [_]) rfl ?_
        go_wp2
        have hR2 := hRe.setCell (p := ⟨w.heap.size + 1, 0, none⟩) (by simp) (by simp; omega) (.int .i64 (m1 + sm + v))
        have hI2 := hIe.set (by omega) (by omega) (m1 + sm + v)
        refine ⟨hR2.kf, hR2.kp, by rw [Hsn.out, ← Int.add_assoc]; exact hI2, by have := hR2.sz; omega, (Below.heap_setCell W2 ⟨w.heap.size + 1, 0, none⟩ _ D1 (by simp; omega)).trans hDe⟩
      case stop7 =>
        rintro D' cc pre W _ _ h _
        exact h.elim
      case done7 =>
        subst ha
        rintro D2 ys W hD hys ⟨hI, hsz, hD1⟩ hK2
        have hs1 := isum_val (fun k => s.outs.getD k 0) ys _ hys
        rw [HN2.out] at hs1
        rw [hs1] at hI
        clear hs1 hys
        generalize hs2 : isum ((Sh.less x.a.rigs y.a.rigs).map fun k => s.outs.getD k 0) = m2 at *
        have hm2b := isum_map_bd (fun k => s.outs.getD k 0) (Sh.less x.a.rigs y.a.rigs) 30 (fun k _ => Sh.getD_bd houts (by omega) k)
        have hl8 := Sh.less_len x.a.rigs y.a.rigs
        rw [hs2] at hm2b
        have hmq := mul_bd (a := s.dull) (b := max 0 (x.a.ten - y.a.ten)) hdl.1 hdl.2 (n := 100) (by omega) (by omega)
        have Hmm := Lib.hid Hm.out
        have hD2g : w.heap.size + 1 < D2 := by omega
        have hD12 : D1 ≠ D2 := by omega
        clear hs2 hbs hI1 hsz1 hD hsz hBs hX1 hY1 hM1 Hm
        go_upto_region 8 with fail
        refine Dr.wp_region_plan 14 [] (.q [0, 1, 2, 3, 4, 5, 6, 7, 8, 9, 10, 11] (.e1 12 (.q [13] .done))) (by kernel_rfl) (by kernel_rfl) ?_
        have hIe := hI.ext (ext_drew W)
        have hK1e : W.drew.heap[D1]? = _ := hD1
        have hK2e : W.drew.heap[D2]? = _ := hK2
        clear hI hD1 hK2
        generalize W.drew = W2 at *
        have q0 := Dr.cell0 (hIe.bm.cell (i := 0) rfl)
        have q1 := Dr.cell0 (hIe.bs.cell (i := 5) rfl)
        have q2 := Dr.cell0 (hIe.bx.cell (i := 1) rfl)
        have q3 := Dr.cell0 (hIe.by_.cell (i := 1) rfl)
        refine Dr.plan_q (l := [_, _, _, _, _, _, _, _, _, _, _, _]) rfl (fun K hK => ?_)
        iterate 12 (go_big_quiet_step (fail))
        refine wpQuiet_nil (hK _ ?_); clear hK K
        clear q0 q1 q2 q3
        have f0 := hIe.bm.free 0
        have r0 : W2.cell? ⟨w.heap.size + 1, 0, none⟩ = _ := hIe.bm.cell (i := 0) rfl
        refine Dr.plan_e rfl (by rfl) (fun K hK => ?_)
        go_wp2_with fail
        rw [set_self hIe.bm rfl]
        refine hK _ _ (Dr.Bel.refl _ _) ?_; clear hK K
        refine Dr.plan_q (l := [_]) rfl (fun K hK => ?_)
        iterate 1 (go_big_quiet_step (fail))
        refine wpQuiet_nil (hK _ ?_); clear hK K
        refine Dr.plan_end rfl ?_
        go_wp2
        have hrow2 : ∀ r, some D2 = some r → ∃ o : Obj, W2.heap[r]? = some o ∧ o.isCells = false := fun r e => by cases e; exact ⟨_, hK2e, rfl⟩
        have hK1f : (W2.putObj D2 (.deferred none)).heap[D1]? = some (.deferred (some [])) := (World.putObj_heap_other hD12).trans hK1e
        have hrow1 : ∀ r, some D1 = some r → ∃ o : Obj, (W2.putObj D2 (.deferred none)).heap[r]? = some o ∧ o.isCells = false := fun r e => by cases e; exact ⟨_, hK1f, rfl⟩
        have p1 : ((W2.putObj D2 (.deferred none)).putObj D1 (.deferred none)).cell? ⟨w.heap.size + 1, 0, none⟩ = _ := (Blk.kept (Blk.kept hIe.bm (grownBy_putObj' W2 D2 (.deferred none)) hrow2) (grownBy_putObj' _ D1 (.deferred none)) hrow1).cell (i := 0) rfl
        have p4 : Below w.heap.size w ((W2.putObj D2 (.deferred none)).putObj D1 (.deferred none)) :=
          (hIe.bl.trans (belowK_b (w := w) (Nat.le_refl _) W2 D2 _ _ (by omega) hK2e rfl rfl)).trans (belowK_b (w := w) (Nat.le_refl _) _ D1 _ _ (by omega) hK1f rfl rfl)
        refine ⟨by simp, .inl ⟨_, _, rfl, run_takeDeferred hK2e, by simp, .inl ⟨_, _, rfl, run_takeDeferred hK1f, .tuple #[.int .i64 cm, .int .i64 cc], ?_, rfl, p4⟩⟩⟩
        simp [results, Tryz.results15, go_sem, p1]
        exact ⟨Hmm.out, by have := Hmm.out; have := Hc.out; omega⟩
end
end Go.Proofs.YtilkoooahoecfaaGreat

/- Walk: an act in its place. -/
namespace Go.Pg
open Go.RowKit Go.Bs Go.Pl
/-- an act in its place -/
def plC (x : AcV) (i last sec : Int) (set : Nat) : List Value := [.int .i64 x.a.min, .int .i64 x.a.ten, .int .u16 x.a.rigs, .slice x.C x.a.casts.length x.c, .bool x.a.spare, .int .i64 i, .int .i64 last, .int .i64 sec, .int .u16 set]
def plV (x : AcV) (i last sec : Int) (set : Nat) : Value := .agg #[.int .i64 x.a.min, .int .i64 x.a.ten, .int .u16 x.a.rigs, .slice x.C x.a.casts.length x.c, .bool x.a.spare, .int .i64 i, .int .i64 last, .int .i64 sec, .int .u16 set]
end Go.Pg
namespace Go.Proofs.YtilkoooahoecfaaGreat
open Go.RowKit Go.Bs Go.Pg Go.Pl Go.Sort
set_option maxRecDepth 100000 in
theorem place_any (s : Sh) (p : ShP) (i : Nat) (last sec : Int) (set : Nat) (w : World) (h : ShM w s p) (hi : i < s.acts.length) :
    Calls Tryz.prog 53 #[shV s p, .int .i64 i, .int .i64 last, .int .i64 sec, .int .u16 set] w fun e w' => (∃ x ∈ p.av, x.a = s.act i ∧ e = .returned (plV x i last sec set)) ∧ Below w.heap.size w w' := by
  obtain ⟨x, hxm, hxa, b, o, hA, hb, a0, a1, a2, a3, a4, -⟩ := h.av' hi
  have hin : (i : Int) < (s.acts.length : Int) := by omega
  have HA := Lib.hid hA
  have Hx := Lib.hid hxa
  have Hxm := Lib.hid hxm
  clear h hA hxa hxm
  unfold shV
  have hb0 : Below w.heap.size w ((w.alloc (.cells (shC s p).toArray 36)).alloc (.cells #[.int .i64 0, .int .i64 0, .int .u16 0, .slice none 0 0, .bool false, .int .i64 0, .int .i64 0, .int .i64 0, .int .u16 0] 117)) := ((Below.refl _ _).alloc (Nat.le_refl _) _).alloc (by simp) _
  have hS := (Blk.new w 36 (shC s p)).alloc (.cells #[.int .i64 0, .int .i64 0, .int .u16 0, .slice none 0 0, .bool false, .int .i64 0, .int .i64 0, .int .i64 0, .int .u16 0] 117)
  have hP := Blk.new (w.alloc (.cells (shC s p).toArray 36)) 117 [.int .i64 0, .int .i64 0, .int .u16 0, .slice none 0 0, .bool false, .int .i64 0, .int .i64 0, .int .i64 0, .int .u16 0]
  simp only [World.size_alloc] at hP
  go_enter Tryz.func53, Tryz.ntmps53
  go_upto_region 1 with fail
  unfold shC at *
  change Blk ((w.alloc (.cells #[.slice p.A s.acts.length p.cA, .slice p.R s.rest.length p.cR, .slice p.I s.ins.length p.cI, .slice p.O s.outs.length p.cO, .int .i64 s.cover, .int .i64 s.dull, .slice p.B s.before.length p.cB] 36)).alloc (.cells #[.int .i64 0, .int .i64 0, .int .u16 0, .slice none 0 0, .bool false, .int .i64 0, .int .i64 0, .int .i64 0, .int .u16 0] 117)) _ _ _ at hS hP
  generalize (w.alloc (.cells #[.slice p.A s.acts.length p.cA, .slice p.R s.rest.length p.cR, .slice p.I s.ins.length p.cI, .slice p.O s.outs.length p.cO, .int .i64 s.cover, .int .i64 s.dull, .slice p.B s.before.length p.cB] 36)).alloc (.cells #[.int .i64 0, .int .i64 0, .int .u16 0, .slice none 0 0, .bool false, .int .i64 0, .int .i64 0, .int .i64 0, .int .u16 0] 117) = W0 at *
  have x0 : W0.cell? ⟨w.heap.size, 0, none⟩ = some (.slice (some ⟨b, o, none⟩) s.acts.length p.cA) := by rw [← HA.out]; exact hS.cell rfl
  have c0 : W0.cell? ⟨b, o + i * 5, none⟩ = _ := (hb0.cell hb).trans a0
  have c1 : W0.cell? ⟨b, o + i * 5 + 1, none⟩ = _ := (hb0.cell hb).trans a1
  have c2 : W0.cell? ⟨b, o + i * 5 + 2, none⟩ = _ := (hb0.cell hb).trans a2
  have c3 : W0.cell? ⟨b, o + i * 5 + 3, none⟩ = _ := (hb0.cell hb).trans a3
  have c4 : W0.cell? ⟨b, o + i * 5 + 4, none⟩ = _ := (hb0.cell hb).trans a4
  have y0 : W0.cell? ⟨w.heap.size + 1, 0, none⟩ = _ := hP.cell rfl
  have y1 : W0.cell? ⟨w.heap.size + 1, 1, none⟩ = _ := hP.cell rfl
  have y2 : W0.cell? ⟨w.heap.size + 1, 2, none⟩ = _ := hP.cell rfl
  have y3 : W0.cell? ⟨w.heap.size + 1, 3, none⟩ = _ := hP.cell rfl
  have y4 : W0.cell? ⟨w.heap.size + 1, 4, none⟩ = _ := hP.cell rfl
  have y5 : W0.cell? ⟨w.heap.size + 1, 5, none⟩ = _ := hP.cell rfl
  have y6 : W0.cell? ⟨w.heap.size + 1, 6, none⟩ = _ := hP.cell rfl
  have y7 : W0.cell? ⟨w.heap.size + 1, 7, none⟩ = _ := hP.cell rfl
  have y8 : W0.cell? ⟨w.heap.size + 1, 8, none⟩ = _ := hP.cell rfl
  have f0 := hP.free 0
  have f1 := hP.free 1
  have f2 := hP.free 2
  have f3 := hP.free 3
  have f4 := hP.free 4
  have f5 := hP.free 5
  have f6 := hP.free 6
  have f7 := hP.free 7
  have f8 := hP.free 8
  clear a0 a1 a2 a3 a4 hS
  go_wp2
  have e1 : puts W0 (w.heap.size + 1) 0 (plC x i last sec set) = (((((((((W0.setCell ⟨w.heap.size + 1, 0, none⟩ (.int .i64 x.a.min)).setCell ⟨w.heap.size + 1, 1, none⟩ (.int .i64 x.a.ten)).setCell ⟨w.heap.size + 1, 2, none⟩ (.int .u16 x.a.rigs)).setCell ⟨w.heap.size + 1, 3, none⟩ (.slice x.C x.a.casts.length x.c)).setCell ⟨w.heap.size + 1, 4, none⟩ (.bool x.a.spare)).setCell ⟨w.heap.size + 1, 5, none⟩ (.int .i64 i)).setCell ⟨w.heap.size + 1, 6, none⟩ (.int .i64 last)).setCell ⟨w.heap.size + 1, 7, none⟩ (.int .i64 sec)).setCell ⟨w.heap.size + 1, 8, none⟩ (.int .u16 set)) := rfl
  have r1 := hP.put_eq (plC x i last sec set) e1 rfl
  have b1 := bel_put_eq (plC x i last sec set) e1
  have hb1 := hb0.trans (Dr.Bel.old (n := w.heap.size) b1 (by have := hP.lt; omega) (by simp))
  clear y0 y1 y2 y3 y4 y5 y6 y7 y8 f0 f1 f2 f3 f4 f5 f6 f7 f8 c0 c1 c2 c3 c4 x0 e1 b1
  generalize (((((((((W0.setCell ⟨w.heap.size + 1, 0, none⟩ (.int .i64 x.a.min)).setCell ⟨w.heap.size + 1, 1, none⟩ (.int .i64 x.a.ten)).setCell ⟨w.heap.size + 1, 2, none⟩ (.int .u16 x.a.rigs)).setCell ⟨w.heap.size + 1, 3, none⟩ (.slice x.C x.a.casts.length x.c)).setCell ⟨w.heap.size + 1, 4, none⟩ (.bool x.a.spare)).setCell ⟨w.heap.size + 1, 5, none⟩ (.int .i64 i)).setCell ⟨w.heap.size + 1, 6, none⟩ (.int .i64 last)).setCell ⟨w.heap.size + 1, 7, none⟩ (.int .i64 sec)).setCell ⟨w.heap.size + 1, 8, none⟩ (.int .u16 set)) = W1 at *
  have z0 : W1.cell? ⟨w.heap.size + 1, 0, none⟩ = _ := r1.cell (i := 0) rfl
  have z1 : W1.cell? ⟨w.heap.size + 1, 1, none⟩ = _ := r1.cell (i := 1) rfl
  have z2 : W1.cell? ⟨w.heap.size + 1, 2, none⟩ = _ := r1.cell (i := 2) rfl
  have z3 : W1.cell? ⟨w.heap.size + 1, 3, none⟩ = _ := r1.cell (i := 3) rfl
  have z4 : W1.cell? ⟨w.heap.size + 1, 4, none⟩ = _ := r1.cell (i := 4) rfl
  have z5 : W1.cell? ⟨w.heap.size + 1, 5, none⟩ = _ := r1.cell (i := 5) rfl
  have z6 : W1.cell? ⟨w.heap.size + 1, 6, none⟩ = _ := r1.cell (i := 6) rfl
  have z7 : W1.cell? ⟨w.heap.size + 1, 7, none⟩ = _ := r1.cell (i := 7) rfl
  have z8 : W1.cell? ⟨w.heap.size + 1, 8, none⟩ = _ := r1.cell (i := 8) rfl
  refine bodyPost_ret (v := plV x i last sec set) (by unfold plV; simp [results, Tryz.results53, go_sem, z0, z1, z2, z3, z4, z5, z6, z7, z8]) rfl ?_
  exact ⟨⟨x, Hxm.out, Hx.out, rfl⟩, hb1⟩
end Go.Proofs.YtilkoooahoecfaaGreat

/- Walk: is a change too long? Is a person tired? (Printed by mk_prgg.py.) -/
namespace Go.Pg
open Go.RowKit Go.Bs Go.Pl
/-- the state of the reckoning of a change: the show's box, the place's box, the sum -/
structure LoI (w : World) (s : Sh) (p : ShP) (pl : List Value) (sum : Int) (W : World) : Prop where
  bl : Below w.heap.size w W
  bs : Blk W w.heap.size 36 (shC s p)
  bp : Blk W (w.heap.size + 1) 117 pl
  bm : Blk W (w.heap.size + 2) 3 [.int .i64 sum]
section
variable {w W W' : World} {s : Sh} {p : ShP} {pl : List Value} {sum : Int}
theorem LoI.ext (h : LoI w s p pl sum W) (hb : Below W.heap.size W W') : LoI w s p pl sum W' := ⟨h.bl.trans (hb.mono h.bl.size), h.bs.ext hb, h.bp.ext hb, h.bm.ext hb⟩
theorem LoI.grown {row : Option Nat} (h : LoI w s p pl sum W) (hg : W.grownBy W' row) (hr : ∀ r, row = some r → w.heap.size ≤ r ∧ ∃ o : Obj, W.heap[r]? = some o ∧ o.isCells = false) : LoI w s p pl sum W' := by
  have hr' := fun r e => (hr r e).2
  exact ⟨below_grown h.bl h.bl.size hg (fun k e => (hr k e).1), Blk.kept h.bs hg hr', Blk.kept h.bp hg hr', Blk.kept h.bm hg hr'⟩
theorem LoI.set (h : LoI w s p pl sum W) (v : Int) : LoI w s p pl v (W.setCell ⟨w.heap.size + 2, 0, none⟩ (.int .i64 v)) :=
  ⟨h.bl.setCell (by show w.heap.size ≤ w.heap.size + 2; omega) _, h.bs.other (by simp) _, h.bp.other (by simp) _, h.bm.set 0 _⟩
end
end Go.Pg
namespace Go.Proofs.YtilkoooahoecfaaGreat
open Go.RowKit Go.Bs Go.Pg Go.Pl Go.Sort
section
attribute [local go_sem] Oper.semAt_some
set_option maxRecDepth 100000 in
set_option maxHeartbeats 8000000 in
theorem long_any (s : Sh) (p : ShP) (x : AcV) (last i : Nat) (sec : Int) (set : Nat) (w : World) (h : ShM w s p) (hok : s.Ok) (hl : last < s.acts.length) (hi : i < s.acts.length) (hx : x.a = s.act i) :
    Calls Tryz.prog 78 #[shV s p, plV x i last sec set] w fun e w' => e = .returned (.bool (decide (s.cover < s.chM last i))) ∧ Below w.heap.size w w' := by
  obtain ⟨b, o, C, c, hA, hb, a0, a1, a2, a3, a4, -⟩ := h.at hl
  have hrx := (h.bit hi).1
  have hry := (h.bit hl).1
  have hRx := (hok.act hi).rigs
  have hRy := (hok.act hl).rigs
  have hM0 := hok.chM last i
  have hcv := hok.cover
  have hins := hok.ins
  have houts := hok.outs
  have Hoi := Lib.hid hok.oi
  have Hm := Lib.hid (show isum ((Sh.less x.a.rigs (s.act last).rigs).map fun k => s.ins.getD k 0) + isum ((Sh.less (s.act last).rigs x.a.rigs).map fun k => s.outs.getD k 0) = s.chM last i by rw [hx]; rfl)
  rw [← hx] at hrx hRx
  generalize (s.act last).rigs = ry at *
  clear hx hok
  have hI0 := h.ins
  have hO0 := h.outs
  have m3 := h.small.2.2.1
  have m4 := h.small.2.2.2.1
  clear h
  have hln : (last : Int) < (s.acts.length : Int) := by omega
  unfold plV shV
  have hb0 : Below w.heap.size w (((w.alloc (.cells (shC s p).toArray 36)).alloc (.cells (plC x i last sec set).toArray 117)).alloc (.cells #[.int .i64 0] 3)) := (((Below.refl _ _).alloc (Nat.le_refl _) _).alloc (by simp) _).alloc (by simp; omega) _
  have hS := ((Blk.new w 36 (shC s p)).alloc (.cells (plC x i last sec set).toArray 117)).alloc (.cells #[.int .i64 0] 3)
  have hP := (Blk.new (w.alloc (.cells (shC s p).toArray 36)) 117 (plC x i last sec set)).alloc (.cells #[.int .i64 0] 3)
  have hM := Blk.new ((w.alloc (.cells (shC s p).toArray 36)).alloc (.cells (plC x i last sec set).toArray 117)) 3 [.int .i64 0]
  simp only [World.size_alloc] at hM hP
  generalize hcm : s.chM last i = cm at *
  clear hcm
  have HA := Lib.hid hA
  clear hA
  refine (callsIn_wide (n := 20)).1 (callsIn_of_wp_marks Tryz.func78 rfl trivial ?_)
  simp only [Tryz.ntmps78, List.size_toArray, List.length_cons, List.length_nil, Nat.reduceAdd, Nat.reduceSub, Array.replicate_succ, Array.replicate_zero, List.push_toArray, List.append_toArray, List.nil_append, List.cons_append]
  refine wpIn_wide.2 ?_
  go_upto_region 2 with fail
  change Below w.heap.size w (((w.alloc (.cells #[.slice p.A s.acts.length p.cA, .slice p.R s.rest.length p.cR, .slice p.I s.ins.length p.cI, .slice p.O s.outs.length p.cO, .int .i64 s.cover, .int .i64 s.dull, .slice p.B s.before.length p.cB] 36)).alloc (.cells #[.int .i64 x.a.min, .int .i64 x.a.ten, .int .u16 x.a.rigs, .slice x.C x.a.casts.length x.c, .bool x.a.spare, .int .i64 i, .int .i64 last, .int .i64 sec, .int .u16 set] 117)).alloc (.cells #[.int .i64 0] 3)) at hb0
  change Blk (((w.alloc (.cells #[.slice p.A s.acts.length p.cA, .slice p.R s.rest.length p.cR, .slice p.I s.ins.length p.cI, .slice p.O s.outs.length p.cO, .int .i64 s.cover, .int .i64 s.dull, .slice p.B s.before.length p.cB] 36)).alloc (.cells #[.int .i64 x.a.min, .int .i64 x.a.ten, .int .u16 x.a.rigs, .slice x.C x.a.casts.length x.c, .bool x.a.spare, .int .i64 i, .int .i64 last, .int .i64 sec, .int .u16 set] 117)).alloc (.cells #[.int .i64 0] 3)) _ _ _ at hS hP hM
  generalize ((w.alloc (.cells #[.slice p.A s.acts.length p.cA, .slice p.R s.rest.length p.cR, .slice p.I s.ins.length p.cI, .slice p.O s.outs.length p.cO, .int .i64 s.cover, .int .i64 s.dull, .slice p.B s.before.length p.cB] 36)).alloc (.cells #[.int .i64 x.a.min, .int .i64 x.a.ten, .int .u16 x.a.rigs, .slice x.C x.a.casts.length x.c, .bool x.a.spare, .int .i64 i, .int .i64 last, .int .i64 sec, .int .u16 set] 117)).alloc (.cells #[.int .i64 0] 3) = W0 at *
  have hI : LoI w s p (plC x i last sec set) 0 W0 := ⟨hb0, hS, hP, hM⟩
  have x0 : W0.cell? ⟨w.heap.size, 0, none⟩ = some (.slice (some ⟨b, o, none⟩) s.acts.length p.cA) := by rw [← HA.out]; exact hS.cell rfl
  have x2' : W0.cell? ⟨w.heap.size + 1, 6, none⟩ = some (.int .i64 last) := hP.cell rfl
  have x3' : W0.cell? ⟨b, o + last * 5 + 2, none⟩ = _ := (hb0.cell hb).trans a2
  clear a0 a1 a2 a3 a4 hb0 hS hP hM
  go_upto_region 3 with fail
  clear x0 x2' x3' HA hl hi hln
  obtain ⟨c1, hc1, hn1, hb1⟩ := andNot16 x.a.rigs ry hrx
  obtain ⟨c2, hc2, hn2, hb2⟩ := andNot16 ry x.a.rigs hry
  have hl1 : ∀ z : Mb c1, z.1 < s.ins.length := fun z => bit_lt hRx (by have := hb1 z.1; rw [z.2] at this; cases h : x.a.rigs.testBit z.1 <;> simp [h] at this ⊢)
  have hl2 : ∀ z : Mb c2, z.1 < s.ins.length := fun z => bit_lt hRy (by have := hb2 z.1; rw [z.2] at this; cases h : ry.testBit z.1 <;> simp [h] at this ⊢)
  have HN1 := Lib.hid (less_memb hb1)
  have HN2 := Lib.hid (less_memb hb2)
  clear hb1 hb2 hRx hRy
  have x2 : W0.cell? ⟨w.heap.size + 1, 2, none⟩ = some (.int .u16 x.a.rigs) := hI.bp.cell rfl
  have CM := Lib.hid (members_any c1 W0)
  have hb1 := ext_alloc W0 (.cells #[.int .u16 c1] 27)
  have hBs := hI.bl.size
  have hM1 := hI.bm.lt
  have hI1 := hI.ext hb1
  have hbs : (W0.alloc (.cells #[.int .u16 c1] 27)).cell? ⟨W0.heap.size, 0, none⟩ = some (.int .u16 c1) := by simp
  have hsz1 : (W0.alloc (.cells #[.int .u16 c1] 27)).heap.size = W0.heap.size + 1 := by simp
  generalize W0.heap.size = Bs at *
  go_wp2_with fail
  refine CM.out.mono ?_; rintro e w1 ⟨rfl, rfl⟩
  go_wp2
  clear x2 CM hI hb1
  generalize W0.alloc (.cells #[.int .u16 c1] 27) = w1 at *
  generalize ha : Act.mk _ _ = a0
  refine wpIn_wide.1 (wpIn_rangeFunc_ownH (F := Fence.wide) (n := 20) rfl (by omega) (gf := 54) (lb := #[.pointer (some ⟨Bs, 0, none⟩)]) (by rw [← ha]; rfl) trivial (enters_of Tryz.func54 (by kernel_rfl) rfl)
    (mem_stops c1 hc1 Fence.wide 19 trivial rfl (by omega) Bs w.heap.size w1 hbs (by omega))
    (fun h k => h.trans k) (Kept.put (by omega) (by omega)) (Below.refl _ _) (fun _ => rfl)
    (fun pre W => LoI w s p (plC x i last sec set) (isum (pre.map fun z => s.ins.getD z.1 0)) W ∧ w1.heap.size ≤ W.heap.size)
    (fun _ _ _ => False) ?own5 (fun _ _ _ _ _ hs _ _ => hs) ?start5
    (fun x a' W => a' = { tmps := (a0.tmps.setIfInBounds 22 (.int .i64 (x.1 : Int))).setIfInBounds 7 (.int .i64 (x.1 : Int)), defers := [] })
    (fun _ _ _ _ _ _ hs _ _ => hs)
    ?assign5 ?body5 ?done5 ?stop5)
  case own5 =>
    rintro pre X Y row ⟨h1, h2⟩ hg hr
    exact ⟨h1.grown hg (fun r e => ⟨by have := (hr r e).1; omega, (hr r e).2⟩), Nat.le_trans h2 hg.size⟩
  case start5 => exact ⟨by simpa [isum] using hI1, Nat.le_refl _⟩
  case assign5 =>
    subst ha
    rintro l pre z W K hi hK
    dsimp only
    gi_wp2
    exact hK _ _ (KeepsFrom.refl _ _) ⟨Below.refl _ _, rfl⟩ hi rfl
  case body5 =>
    subst ha
    rintro l pre z a' W hl - ⟨hI, hsz⟩ rfl hlt
    simp only [List.setIfInBounds_toArray, List.set_cons_succ, List.set_cons_zero]
    have hR := Rnd.refl w1.heap.size w.heap.size Bs W
    have hsb := isum_map_bd (fun z : Mb c1 => s.ins.getD z.1 0) pre 30 (fun z _ => Sh.getD_bd hins (by omega) z.1)
    have hvb := Sh.getD_bd hins (by omega) z.1
    have Hsn := Lib.hid (isum_snoc (fun k => s.ins.getD k 0) pre z)
    have hz := hl1 z
    gi_upto_region 5 with fail
    have hIe := hI.ext (ext_drew W)
    have hRe := hR.ext (ext_drew W) (by omega) (by omega)
    have hsze : w1.heap.size ≤ W.drew.heap.size := hsz
    refine Dr.wpIn_region_plan rfl ?q5 7 [] (.q [0, 1, 2, 3, 4, 5, 6] .done) (by kernel_rfl) (by kernel_rfl) (by kernel_rfl) ?_
    case q5 => rintro ⟨_, _, h⟩; exact h
    clear hI hR
    generalize W.drew = W2 at *
    obtain ⟨bi, oi, hpI, -, ci⟩ := (hI0.ext hIe.bl).at1 (k := z.1) (hl1 z) rfl
    have q0 := Dr.cell0 (hIe.bm.cell (i := 0) rfl)
    have q1 := hIe.bs.cell (i := 2) rfl
    rw [hpI] at q1
    have q1 := Dr.cell0 q1
    have q2 := Dr.cell0 ci
    have hz0 : (0 : Int) ≤ (z.1 : Int) := by omega
    have hzn : (z.1 : Int) < (s.ins.length : Int) := by have := (hl1 z); omega
    have hgv : s.ins.getD z.1 0 = s.ins[z.1]'((hl1 z)) := by simp [(hl1 z)]
    rw [hgv] at Hsn hvb
    clear hgv hpI ci
    generalize s.ins[z.1]'((hl1 z)) = v at *
    generalize isum (pre.map fun z => s.ins.getD z.1 0) = sm at *
    refine Dr.plan_q (l := [_, _, _, _, _, _, _]) rfl (fun K hK => ?_)
    iterate 7 (go_big_quiet_step (fail))
    refine wpQuiet_nil (hK _ ?_); clear hK K
    clear q0 q1 q2
    have f0 := hIe.bm.free 0
    have r0 : W2.cell? ⟨w.heap.size + 2, 0, none⟩ = _ := hIe.bm.cell (i := 0) rfl
    refine Dr.plan_done (tl := [_]) rfl ?_
    go_wp2
    have hR2 := hRe.setCell (p := ⟨w.heap.size + 2, 0, none⟩) (by simp) (by simp; omega) (.int .i64 (sm + v))
    have hI2 := hIe.set (sm + v)
    refine ⟨hR2.kf, hR2.kp, by rw [Hsn.out, show sm + v = sm + v from rfl]; exact hI2, Nat.le_trans hsz hR2.sz⟩
  case stop5 =>
    rintro D' cc pre W _ _ h _
    exact h.elim
  case done5 =>
    subst ha
    rintro D1 ys W hD hys ⟨hI, hsz⟩ hK1
    have hs1 := isum_val (fun k => s.ins.getD k 0) ys _ hys
    rw [HN1.out] at hs1
    rw [hs1] at hI
    clear hs1 hys
    generalize hs1 : isum ((Sh.less x.a.rigs ry).map fun k => s.ins.getD k 0) = m1 at *
    have hm1b := isum_map_bd (fun k => s.ins.getD k 0) (Sh.less x.a.rigs ry) 30 (fun k _ => Sh.getD_bd hins (by omega) k)
    have hl9 := Sh.less_len x.a.rigs ry
    rw [hs1] at hm1b
    have hD1g : w.heap.size + 2 < D1 := by omega
    have hD1l : D1 < W.heap.size := (Array.getElem?_eq_some_iff.1 hK1).1
    clear hs1 hbs hI1 hsz1 hD hsz hBs hM1
    have x2 : W.cell? ⟨w.heap.size + 1, 2, none⟩ = some (.int .u16 x.a.rigs) := hI.bp.cell rfl
    have CM := Lib.hid (members_any c2 W)
    have hb1 := ext_alloc W (.cells #[.int .u16 c2] 27)
    have hBs := hI.bl.size
    have hM1 := hI.bm.lt
    have hI1 := hI.ext hb1
    have hbs : (W.alloc (.cells #[.int .u16 c2] 27)).cell? ⟨W.heap.size, 0, none⟩ = some (.int .u16 c2) := by simp
    have hsz1 : (W.alloc (.cells #[.int .u16 c2] 27)).heap.size = W.heap.size + 1 := by simp
    have hD1 : (W.alloc (.cells #[.int .u16 c2] 27)).heap[D1]? = some (.deferred (some [])) := (hb1.block D1 hD1l).trans hK1
    generalize W.heap.size = Bs at *
    go_wp2_with fail
    refine CM.out.mono ?_; rintro e w1 ⟨rfl, rfl⟩
    go_wp2
    clear x2 CM hI hb1
    generalize W.alloc (.cells #[.int .u16 c2] 27) = w1 at *
    generalize ha : Act.mk _ _ = a0
    refine wpIn_wide.1 (wpIn_rangeFunc_ownH (F := Fence.wide) (n := 20) rfl (by omega) (gf := 54) (lb := #[.pointer (some ⟨Bs, 0, none⟩)]) (by rw [← ha]; rfl) trivial (enters_of Tryz.func54 (by kernel_rfl) rfl)
      (mem_stops c2 hc2 Fence.wide 19 trivial rfl (by omega) Bs w.heap.size w1 hbs (by omega))
      (fun h k => h.trans k) (Kept.put (by omega) (by omega)) (Below.refl _ _) (fun _ => rfl)
      (fun pre W => LoI w s p (plC x i last sec set) (m1 + isum (pre.map fun z => s.outs.getD z.1 0)) W ∧ w1.heap.size ≤ W.heap.size ∧ W.heap[D1]? = some (.deferred (some [])))
      (fun _ _ _ => False) ?own8 (fun _ _ _ _ _ hs _ _ => hs) ?start8
      (fun x a' W => a' = { tmps := (a0.tmps.setIfInBounds 36 (.int .i64 (x.1 : Int))).setIfInBounds 8 (.int .i64 (x.1 : Int)), defers := [] })
      (fun _ _ _ _ _ _ hs _ _ => hs)
      ?assign8 ?body8 ?done8 ?stop8)
    case own8 =>
      rintro pre X Y row ⟨h1, h2, h3⟩ hg hr
      exact ⟨h1.grown hg (fun r e => ⟨by have := (hr r e).1; omega, (hr r e).2⟩), Nat.le_trans h2 hg.size, (hg.block D1 (Array.getElem?_eq_some_iff.1 h3).1 (fun e => by have := (hr D1 e.symm).1; omega)).trans h3⟩
    case start8 => exact ⟨by simpa [isum] using hI1, Nat.le_refl _, hD1⟩
    case assign8 =>
      subst ha
      rintro l pre z W K hi hK
      dsimp only
      gi_wp2
      exact hK _ _ (KeepsFrom.refl _ _) ⟨Below.refl _ _, rfl⟩ hi rfl
    case body8 =>
      subst ha
      rintro l pre z a' W hl - ⟨hI, hsz, hDp⟩ rfl hlt
      simp only [List.setIfInBounds_toArray, List.set_cons_succ, List.set_cons_zero]
      have hR := Rnd.refl w1.heap.size w.heap.size Bs W
      have hsb := isum_map_bd (fun z : Mb c2 => s.outs.getD z.1 0) pre 30 (fun z _ => Sh.getD_bd houts (by omega) z.1)
      have hvb := Sh.getD_bd houts (by omega) z.1
      have Hsn := Lib.hid (isum_snoc (fun k => s.outs.getD k 0) pre z)
      have hz := hl2 z
      gi_upto_region 8 with fail
      have hIe := hI.ext (ext_drew W)
      have hRe := hR.ext (ext_drew W) (by omega) (by omega)
      have hsze : w1.heap.size ≤ W.drew.heap.size := hsz
      have hDe : W.drew.heap[D1]? = _ := hDp
      refine Dr.wpIn_region_plan rfl ?q8 7 [] (.q [0, 1, 2, 3, 4, 5, 6] .done) (by kernel_rfl) (by kernel_rfl) (by kernel_rfl) ?_
      case q8 => rintro ⟨_, _, h⟩; exact h
      clear hI hR hDp
      generalize W.drew = W2 at *
      obtain ⟨bi, oi, hpI, -, ci⟩ := (hO0.ext hIe.bl).at1 (k := z.1) (show z.1 < s.outs.length by rw [Hoi.out]; exact hz) rfl
      have q0 := Dr.cell0 (hIe.bm.cell (i := 0) rfl)
      have q1 := hIe.bs.cell (i := 3) rfl
      rw [hpI] at q1
      have q1 := Dr.cell0 q1
      have q2 := Dr.cell0 ci
      have hz0 : (0 : Int) ≤ (z.1 : Int) := by omega
      have hzn : (z.1 : Int) < (s.outs.length : Int) := by have := (show z.1 < s.outs.length by rw [Hoi.out]; exact hz); omega
      have hgv : s.outs.getD z.1 0 = s.outs[z.1]'((show z.1 < s.outs.length by rw [Hoi.out]; exact hz)) := by simp [(show z.1 < s.outs.length by rw [Hoi.out]; exact hz)]
      rw [hgv] at Hsn hvb
      clear hgv hpI ci
      generalize s.outs[z.1]'((show z.1 < s.outs.length by rw [Hoi.out]; exact hz)) = v at *
      generalize isum (pre.map fun z => s.outs.getD z.1 0) = sm at *
      refine Dr.plan_q (l := [_, _, _, _, _, _, _]) rfl (fun K hK => ?_)
      iterate 7 (go_big_quiet_step (fail))
      refine wpQuiet_nil (hK _ ?_); clear hK K
      clear q0 q1 q2
      have f0 := hIe.bm.free 0
      have r0 : W2.cell? ⟨w.heap.size + 2, 0, none⟩ = _ := hIe.bm.cell (i := 0) rfl
      refine Dr.plan_done (tl := [_]) rfl ?_
      go_wp2
      have hR2 := hRe.setCell (p := ⟨w.heap.size + 2, 0, none⟩) (by simp) (by simp; omega) (.int .i64 (m1 + sm + v))
      have hI2 := hIe.set (m1 + sm + v)
      refine ⟨hR2.kf, hR2.kp, by rw [Hsn.out, ← Int.add_assoc]; exact hI2, Nat.le_trans hsz hR2.sz, (Below.heap_setCell W2 ⟨w.heap.size + 2, 0, none⟩ _ D1 (by simp; omega)).trans hDe⟩
    case stop8 =>
      rintro D' cc pre W _ _ h _
      exact h.elim
    case done8 =>
      subst ha
      rintro D2 ys W hD hys ⟨hI, hsz, hD1⟩ hK2
      have hs1 := isum_val (fun k => s.outs.getD k 0) ys _ hys
      rw [HN2.out] at hs1
      rw [hs1] at hI
      clear hs1 hys
      generalize hs2 : isum ((Sh.less ry x.a.rigs).map fun k => s.outs.getD k 0) = m2 at *
      have Hmm := Lib.hid Hm.out
      have hD2g : w.heap.size + 2 < D2 := by omega
      have hD12 : D1 ≠ D2 := by omega
      clear hs2 hbs hI1 hsz1 hD hsz hBs hM1 Hm
      have q0 : W.cell? ⟨w.heap.size + 2, 0, none⟩ = _ := hI.bm.cell (i := 0) rfl
      have q1 : W.cell? ⟨w.heap.size, 4, none⟩ = _ := hI.bs.cell (i := 4) rfl
      go_wp2
      have hrow2 : ∀ r, some D2 = some r → ∃ o : Obj, W.heap[r]? = some o ∧ o.isCells = false := fun r e => by cases e; exact ⟨_, hK2, rfl⟩
      have hK1f : (W.putObj D2 (.deferred none)).heap[D1]? = some (.deferred (some [])) := (World.putObj_heap_other hD12).trans hD1
      have p4 : Below w.heap.size w ((W.putObj D2 (.deferred none)).putObj D1 (.deferred none)) :=
        (hI.bl.trans (belowK_b (w := w) (Nat.le_refl _) W D2 _ _ (by omega) hK2 rfl rfl)).trans (belowK_b (w := w) (Nat.le_refl _) _ D1 _ _ (by omega) hK1f rfl rfl)
      refine ⟨by simp, .inl ⟨_, _, rfl, run_takeDeferred hK2, by simp, .inl ⟨_, _, rfl, run_takeDeferred hK1f, .bool (decide (s.cover < cm)), ?_, rfl, p4⟩⟩⟩
      simp [results, Tryz.results78, go_sem]
      rw [Hmm.out]
end
end Go.Proofs.YtilkoooahoecfaaGreat

/- Walk: does a person of two acts need more rest? -/
namespace Go.Pg
open Go.RowKit Go.Bs Go.Pl
structure TiI (w : World) (s : Sh) (p : ShP) (bt : Int) (r : Bool) (W : World) : Prop where
  bl : Below w.heap.size w W
  bs : Blk W w.heap.size 36 (shC s p)
  bb : Blk W (w.heap.size + 1) 3 [.int .i64 bt]
  br : Blk W (w.heap.size + 2) 4 [.bool r]
section
variable {w W W' : World} {s : Sh} {p : ShP} {bt : Int} {r : Bool}
theorem TiI.ext (h : TiI w s p bt r W) (hb : Below W.heap.size W W') : TiI w s p bt r W' := ⟨h.bl.trans (hb.mono h.bl.size), h.bs.ext hb, h.bb.ext hb, h.br.ext hb⟩
theorem TiI.grown {row : Option Nat} (h : TiI w s p bt r W) (hg : W.grownBy W' row) (hr : ∀ r, row = some r → w.heap.size ≤ r ∧ ∃ o : Obj, W.heap[r]? = some o ∧ o.isCells = false) : TiI w s p bt r W' := by
  have hr' := fun r e => (hr r e).2
  exact ⟨below_grown h.bl h.bl.size hg (fun k e => (hr k e).1), Blk.kept h.bs hg hr', Blk.kept h.bb hg hr', Blk.kept h.br hg hr'⟩
theorem TiI.set (h : TiI w s p bt r W) (v : Bool) : TiI w s p bt v (W.setCell ⟨w.heap.size + 2, 0, none⟩ (.bool v)) :=
  ⟨h.bl.setCell (by show w.heap.size ≤ w.heap.size + 2; omega) _, h.bs.other (by simp) _, h.bb.other (by simp) _, h.br.set 0 _⟩
end
def NoT (s : Sh) (bt : Int) {c : Nat} (l : List (Mb c)) : Prop := ∀ z ∈ l, ¬ bt < s.rest.getD z.1 0
def IsT (s : Sh) (bt : Int) (c : Nat) : Prop := ∃ z : Mb c, bt < s.rest.getD z.1 0
theorem NoT.nil {s : Sh} {bt : Int} {c : Nat} : NoT s bt ([] : List (Mb c)) := fun z hz => by simp at hz
theorem NoT.snoc {s : Sh} {bt v : Int} {c : Nat} {l : List (Mb c)} {z : Mb c} (h : NoT s bt l) (hv : s.rest.getD z.1 0 = v) (hn : ¬ bt < v) : NoT s bt (l ++ [z]) := fun y hy => by
  rcases List.mem_append.1 hy with hy | hy
  · exact h y hy
  · simp only [List.mem_singleton] at hy; subst hy; rw [hv]; exact hn
theorem IsT.mk {s : Sh} {bt v : Int} {c : Nat} (z : Mb c) (hv : s.rest.getD z.1 0 = v) (h : bt < v) : IsT s bt c := ⟨z, by rw [hv]; exact h⟩
theorem tired_f {s : Sh} {a b : Nat} {bt : Int} (ys : List (Mb (s.cast a &&& s.cast b))) (h : ys.map (·.1) = Sh.memb (s.cast a &&& s.cast b)) (hn : NoT s bt ys) : s.tired a b bt = false := by
  unfold Sh.tired
  rw [List.any_eq_false]
  intro i hi hc
  simp only [Bool.and_eq_true, decide_eq_true_eq] at hc
  have hm : i ∈ Sh.memb (s.cast a &&& s.cast b) := mem_memb.2 ⟨by simpa using hi, by rw [Nat.testBit_and, hc.1.1, hc.1.2]; rfl⟩
  rw [← h] at hm
  obtain ⟨z, hz, rfl⟩ := List.mem_map.1 hm
  exact hn z hz hc.2
theorem tired_t {s : Sh} {a b : Nat} {bt : Int} (hc : s.cast a &&& s.cast b < 65536) (h : IsT s bt (s.cast a &&& s.cast b)) : s.tired a b bt = true := by
  obtain ⟨z, h⟩ := h
  unfold Sh.tired
  rw [List.any_eq_true]
  have hb := z.2
  rw [Nat.testBit_and, Bool.and_eq_true] at hb
  exact ⟨z.1, by have := bit_lt (n := 16) hc z.2; simpa using this, by simp only [Bool.and_eq_true, decide_eq_true_eq]; exact ⟨⟨hb.1, hb.2⟩, h⟩⟩
end Go.Pg
namespace Go.Proofs.YtilkoooahoecfaaGreat
open Go.RowKit Go.Bs Go.Pg Go.Pl Go.Sort
section
attribute [local go_sem] Oper.semAt_some
set_option maxRecDepth 100000 in
set_option maxHeartbeats 8000000 in
theorem tired_any (s : Sh) (p : ShP) (a b : Nat) (bt : Int) (w : World) (h : ShM w s p) (hok : s.Ok) (ha : a < s.acts.length) (hb : b < s.acts.length) :
    Calls Tryz.prog 79 #[shV s p, .int .i64 a, .int .i64 b, .int .i64 bt] w fun e w' => e = .returned (.bool (s.tired a b bt)) ∧ Below w.heap.size w w' := by
  obtain ⟨bx, o, C1, k1, hA, hbx, -, -, -, a3, -, hC1⟩ := h.at ha
  obtain ⟨bx', o', C2, k2, hA', -, -, -, -, b3, -, hC2⟩ := h.at hb
  rw [hA] at hA'
  obtain ⟨rfl, rfl⟩ : bx = bx' ∧ o = o' := by simpa using hA'
  clear hA'
  have l1 := (hok.act ha).c1
  have l2 := (hok.act hb).c1
  obtain ⟨g1, o1, rfl, hg1, d1⟩ := hC1.at1 (k := 0) (by omega) rfl
  obtain ⟨g2, o2, rfl, hg2, d2⟩ := hC2.at1 (k := 0) (by omega) rfl
  have e1 : (s.act a).casts[0] = s.cast a := by unfold Sh.cast; simp [show 0 < (s.act a).casts.length by omega]
  have e2 : (s.act b).casts[0] = s.cast b := by unfold Sh.cast; simp [show 0 < (s.act b).casts.length by omega]
  rw [e1, Nat.add_zero] at d1
  rw [e2, Nat.add_zero] at d2
  have u1 : s.cast a < 65536 := by rw [← e1]; exact (h.bit ha).2.2 _ (List.getElem_mem _)
  have u2 : s.cast b < 65536 := by rw [← e2]; exact (h.bit hb).2.2 _ (List.getElem_mem _)
  have v1 : s.cast a < 2 ^ s.rest.length := by rw [← e1]; exact (hok.act ha).casts _ (List.getElem_mem _)
  clear e1 e2 hC1 hC2
  have hcc : s.cast a &&& s.cast b < 65536 := Nat.lt_of_le_of_lt Nat.and_le_left u1
  have hn := u16_and_nat (s.cast a) (s.cast b) u1 u2
  have hlz : ∀ z : Mb (s.cast a &&& s.cast b), z.1 < s.rest.length := fun z => bit_lt v1 (by have := z.2; rw [Nat.testBit_and, Bool.and_eq_true] at this; exact this.1)
  have hrest := hok.rest
  have hR0 := h.rest
  have m2 := h.small.2.1
  have Ht := Lib.hid (tired_t (s := s) (a := a) (b := b) (bt := bt) hcc)
  have Hf := Lib.hid (fun ys h1 h2 => tired_f (s := s) (a := a) (b := b) (bt := bt) ys h1 h2)
  clear h hok v1
  generalize s.tired a b bt = res at *
  generalize s.cast a &&& s.cast b = c at *
  have han : (a : Int) < (s.acts.length : Int) := by omega
  have hbn : (b : Int) < (s.acts.length : Int) := by omega
  have la : (0 : Int) < ((s.act a).casts.length : Int) := by omega
  have lb : (0 : Int) < ((s.act b).casts.length : Int) := by omega
  generalize (s.act a).casts.length = n1 at *
  generalize (s.act b).casts.length = n2 at *
  have HA := Lib.hid hA
  clear hA
  unfold shV
  have hb0 : Below w.heap.size w (((w.alloc (.cells (shC s p).toArray 36)).alloc (.cells #[.int .i64 bt] 3)).alloc (.cells #[.bool false] 4)) := (((Below.refl _ _).alloc (Nat.le_refl _) _).alloc (by simp) _).alloc (by simp; omega) _
  have hS := ((Blk.new w 36 (shC s p)).alloc (.cells #[.int .i64 bt] 3)).alloc (.cells #[.bool false] 4)
  have hB := (Blk.new (w.alloc (.cells (shC s p).toArray 36)) 3 [.int .i64 bt]).alloc (.cells #[.bool false] 4)
  have hR := Blk.new ((w.alloc (.cells (shC s p).toArray 36)).alloc (.cells #[.int .i64 bt] 3)) 4 [.bool false]
  have hsz : (((w.alloc (.cells (shC s p).toArray 36)).alloc (.cells #[.int .i64 bt] 3)).alloc (.cells #[.bool false] 4)).heap.size = w.heap.size + 3 := by simp
  simp only [World.size_alloc] at hB hR
  refine (callsIn_wide (n := 20)).1 (callsIn_of_wp_marks Tryz.func79 rfl trivial ?_)
  simp only [Tryz.ntmps79, List.size_toArray, List.length_cons, List.length_nil, Nat.reduceAdd, Nat.reduceSub, Array.replicate_succ, Array.replicate_zero, List.push_toArray, List.append_toArray, List.nil_append, List.cons_append]
  refine wpIn_wide.2 ?_
  go_upto_region 1 with fail
  unfold shC at hb0 hS hB hR hsz
  change Below w.heap.size w (((w.alloc (.cells #[.slice p.A s.acts.length p.cA, .slice p.R s.rest.length p.cR, .slice p.I s.ins.length p.cI, .slice p.O s.outs.length p.cO, .int .i64 s.cover, .int .i64 s.dull, .slice p.B s.before.length p.cB] 36)).alloc (.cells #[.int .i64 bt] 3)).alloc (.cells #[.bool false] 4)) at hb0
  change Blk (((w.alloc (.cells #[.slice p.A s.acts.length p.cA, .slice p.R s.rest.length p.cR, .slice p.I s.ins.length p.cI, .slice p.O s.outs.length p.cO, .int .i64 s.cover, .int .i64 s.dull, .slice p.B s.before.length p.cB] 36)).alloc (.cells #[.int .i64 bt] 3)).alloc (.cells #[.bool false] 4)) _ _ _ at hS hB hR
  change (((w.alloc (.cells #[.slice p.A s.acts.length p.cA, .slice p.R s.rest.length p.cR, .slice p.I s.ins.length p.cI, .slice p.O s.outs.length p.cO, .int .i64 s.cover, .int .i64 s.dull, .slice p.B s.before.length p.cB] 36)).alloc (.cells #[.int .i64 bt] 3)).alloc (.cells #[.bool false] 4)).heap.size = _ at hsz
  generalize ((w.alloc (.cells #[.slice p.A s.acts.length p.cA, .slice p.R s.rest.length p.cR, .slice p.I s.ins.length p.cI, .slice p.O s.outs.length p.cO, .int .i64 s.cover, .int .i64 s.dull, .slice p.B s.before.length p.cB] 36)).alloc (.cells #[.int .i64 bt] 3)).alloc (.cells #[.bool false] 4) = W0 at *
  have hI0 : TiI w s p bt false W0 := ⟨hb0, hS, hB, hR⟩
  clear hS hB hR hb0
  refine Dr.wp_region_plan 18 [] (.q [0, 1, 2, 3, 4, 5, 6, 7, 8, 9, 10, 11, 12, 13, 14, 15, 16] (.e1 17 .done)) (by kernel_rfl) (by kernel_rfl) ?_
  have hI := hI0.ext (ext_drew W0)
  have hsz1 : W0.drew.heap.size = w.heap.size + 3 := hsz
  clear hI0 hsz
  generalize W0.drew = W at *
  have q0 : W.cell? ⟨w.heap.size, 0, none⟩ = some (.slice (some ⟨bx, o, none⟩) s.acts.length p.cA) := by rw [← HA.out]; exact hI.bs.cell rfl
  have q0 := Dr.cell0 q0
  have q1 := Dr.cell0 ((hI.bl.cell (p := ⟨bx, o + a * 5 + 3, none⟩) hbx).trans a3)
  have q2 := Dr.cell0 ((hI.bl.cell (p := ⟨bx, o + b * 5 + 3, none⟩) hbx).trans b3)
  have q3 := Dr.cell0 ((hI.bl.cell (p := ⟨g1, o1, none⟩) hg1).trans d1)
  have q4 := Dr.cell0 ((hI.bl.cell (p := ⟨g2, o2, none⟩) hg2).trans d2)
  refine Dr.plan_q (l := [_, _, _, _, _, _, _, _, _, _, _, _, _, _, _, _, _]) rfl (fun K hK => ?_)
  iterate 17 (go_big_quiet_step (fail))
  refine wpQuiet_nil (hK _ ?_); clear hK K
  clear q0 q1 q2 q3 q4
  have CM := Lib.hid (members_any c W)
  have hb1 := ext_alloc W (.cells #[.int .u16 c] 27)
  have hbs : (W.alloc (.cells #[.int .u16 c] 27)).cell? ⟨w.heap.size + 3, 0, none⟩ = some (.int .u16 c) := by rw [← hsz1]; simp
  have hsz2 : (W.alloc (.cells #[.int .u16 c] 27)).heap.size = w.heap.size + 4 := by simp [hsz1]
  have hI1 := hI.ext hb1
  rw [hsz1] at CM
  refine Dr.plan_e rfl (by rfl) (fun K hK => ?_)
  go_wp2_with fail
  refine CM.out.mono ?_; rintro e w1 ⟨rfl, rfl⟩
  refine hK _ _ (.of hb1) ?_; clear hK K
  refine Dr.plan_end rfl ?_
  clear CM hI hb1 hsz1 a3 b3 d1 d2
  generalize W.alloc (.cells #[.int .u16 c] 27) = w1 at *
  go_wp2
  have hBs := hI1.bl.size
  have Hsz2 := Lib.hid hsz2
  clear hsz2
  generalize ha : Act.mk _ _ = a0
  refine wpIn_wide.1 (wpIn_rangeFunc_ownH (F := Fence.wide) (n := 20) rfl (by omega) (gf := 54) (lb := #[.pointer (some ⟨w.heap.size + 3, 0, none⟩)]) (by rw [← ha]; rfl) trivial (enters_of Tryz.func54 (by kernel_rfl) rfl)
    (mem_stops c hcc Fence.wide 19 trivial rfl (by omega) (w.heap.size + 3) w.heap.size w1 hbs (by have := Hsz2.out; omega))
    (fun h k => h.trans k) (Kept.put (by omega) (by have := Hsz2.out; omega)) (Below.refl _ _) (fun _ => rfl)
    (fun pre W => TiI w s p bt false W ∧ NoT s bt pre ∧ w1.heap.size ≤ W.heap.size)
    (fun cd _ W => cd = .ret ∧ TiI w s p bt true W ∧ IsT s bt c) ?own ?ownx ⟨hI1, NoT.nil, Nat.le_refl _⟩
    (fun x a' W => a' = { tmps := (a0.tmps.setIfInBounds 28 (.int .i64 (x.1 : Int))).setIfInBounds 9 (.int .i64 (x.1 : Int)), defers := [] })
    (fun _ _ _ _ _ _ hs _ _ => hs)
    ?assign ?body ?done ?stop)
  case own =>
    rintro pre X Y row ⟨h1, h2, h3⟩ hg hr
    exact ⟨h1.grown hg (fun r e => ⟨by have := (hr r e).1; omega, (hr r e).2⟩), h2, Nat.le_trans h3 hg.size⟩
  case ownx =>
    rintro cc pre X Y row ⟨h1, h2, h3⟩ hg hr
    exact ⟨h1, h2.grown hg (fun r e => ⟨by have := (hr r e).1; omega, (hr r e).2⟩), h3⟩
  case assign =>
    subst ha
    rintro l pre z W K hi hK
    dsimp only
    gi_wp2
    exact hK _ _ (KeepsFrom.refl _ _) ⟨Below.refl _ _, rfl⟩ hi rfl
  case body =>
    subst ha
    rintro l pre z a' W hl - ⟨hI, hn0, hsz⟩ rfl hlt
    simp only [List.setIfInBounds_toArray, List.set_cons_succ, List.set_cons_zero]
    have hR := Rnd.refl w1.heap.size w.heap.size (w.heap.size + 3) W
    have hz := hlz z
    have Hn0 := Lib.hid hn0
    clear hn0
    gi_upto_region 3 with fail
    have hIe := hI.ext (ext_drew W)
    have hRe := hR.ext (ext_drew W) (by omega) (by have := Hsz2.out; omega)
    have hsze : w1.heap.size ≤ W.drew.heap.size := hsz
    refine Dr.wpIn_region_plan rfl ?q3 7 [] (.q [0, 1, 2, 3, 4, 5, 6] .done) (by kernel_rfl) (by kernel_rfl) (by kernel_rfl) ?_
    case q3 => rintro ⟨_, _, h⟩; exact h
    clear hI hR
    generalize W.drew = W2 at *
    obtain ⟨bi, oi, hpI, -, ci⟩ := (hR0.ext hIe.bl).at1 (k := z.1) hz rfl
    have q0 := Dr.cell0 (hIe.bb.cell (i := 0) rfl)
    have q1 := hIe.bs.cell (i := 1) rfl
    rw [hpI] at q1
    have q1 := Dr.cell0 q1
    have q2 := Dr.cell0 ci
    have hz0 : (0 : Int) ≤ (z.1 : Int) := by omega
    have hzn : (z.1 : Int) < (s.rest.length : Int) := by omega
    have hgv : s.rest.getD z.1 0 = s.rest[z.1]'hz := by simp [hz]
    have Hgv := Lib.hid hgv
    clear hgv hpI ci
    generalize s.rest[z.1]'hz = v at *
    refine Dr.plan_q (l := [_, _, _, _, _, _, _]) rfl (fun K hK => ?_)
    iterate 7 (go_big_quiet_step (fail))
    refine wpQuiet_nil (hK _ ?_); clear hK K
    clear q0 q1 q2
    refine Dr.plan_end rfl ?_
    by_cases hv : bt < v
    · have Hv := Lib.hid hv
      have f0 := hIe.br.free 0
      have r0 : W2.cell? ⟨w.heap.size + 2, 0, none⟩ = _ := hIe.br.cell (i := 0) rfl
      gi_wp2
      have hR2 := hRe.setCell (p := ⟨w.heap.size + 2, 0, none⟩) (by simp) (by simp) (.bool true)
      exact ⟨hR2.kf, rfl, hIe.set true, IsT.mk z Hgv.out Hv.out⟩
    · have Hv := Lib.hid hv
      gi_wp2
      exact ⟨hRe.kf, hRe.kp, hIe, Hn0.out.snoc Hgv.out (by have := Hv.out; omega), Nat.le_trans hsz hRe.sz⟩
  case done =>
    subst ha
    rintro D' ys W hD hys ⟨hI, hn0, hsz⟩ hK
    have hr := Hf.out ys hys hn0
    subst hr
    have f0 := hI.br.free 0
    have r0 : W.cell? ⟨w.heap.size + 2, 0, none⟩ = _ := hI.br.cell (i := 0) rfl
    have hne : D' ≠ w.heap.size + 2 := by have := Hsz2.out; omega
    clear hn0
    go_wp2
    rw [show (W.setCell ⟨w.heap.size + 2, 0, none⟩ (.bool false)) = W from set_self hI.br rfl]
    have hrow : ∀ r, some D' = some r → ∃ o : Obj, W.heap[r]? = some o ∧ o.isCells = false := fun r e => by cases e; exact ⟨_, hK, rfl⟩
    have p1 : (W.putObj D' (.deferred none)).cell? ⟨w.heap.size + 2, 0, none⟩ = _ := (Blk.kept hI.br (grownBy_putObj' W D' (.deferred none)) hrow).cell (i := 0) rfl
    have p4 : Below w.heap.size w (W.putObj D' (.deferred none)) := hI.bl.trans (belowK_b (w := w) (Nat.le_refl _) W D' _ _ (by omega) hK rfl rfl)
    refine ⟨by simp, .inl ⟨_, _, rfl, run_takeDeferred hK, .bool false, by simp [results, Tryz.results79, go_sem, p1], rfl, p4⟩⟩
  case stop =>
    subst ha
    rintro D' cc pre W hD - ⟨rfl, hI, hz⟩ hK
    have hr := Ht.out hz
    subst hr
    refine wpIn_wide.2 ?_
    go_wp2
    have hrow : ∀ r, some D' = some r → ∃ o : Obj, W.heap[r]? = some o ∧ o.isCells = false := fun r e => by cases e; exact ⟨_, hK, rfl⟩
    have p1 : (W.putObj D' (.deferred none)).cell? ⟨w.heap.size + 2, 0, none⟩ = _ := (Blk.kept hI.br (grownBy_putObj' W D' (.deferred none)) hrow).cell (i := 0) rfl
    have p4 : Below w.heap.size w (W.putObj D' (.deferred none)) := hI.bl.trans (belowK_b (w := w) (Nat.le_refl _) W D' _ _ (by omega) hK rfl rfl)
    refine ⟨by simp, .inl ⟨_, _, rfl, run_takeDeferred hK, .bool true, by simp [results, Tryz.results79, go_sem, p1], rfl, p4⟩⟩
end
end Go.Proofs.YtilkoooahoecfaaGreat

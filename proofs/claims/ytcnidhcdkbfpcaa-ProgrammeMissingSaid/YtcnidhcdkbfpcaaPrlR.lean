/- A show without a person, as plain data; its making in memory. -/
import Derived.Test.YtcnidhcdkbfpcaaPrlL
namespace Go.Pg
open Go.Pl Go.Bs
namespace Sh
def castsW (s : Sh) (p i : Nat) : List Nat := (s.act i).casts.filter fun c => !c.testBit p
def kepB (s : Sh) (p i : Nat) : Bool := decide (0 < (s.castsW p i).length)
def keptTo (s : Sh) (p i : Nat) : List Nat := (List.range i).filter (s.kepB p)
def actW (s : Sh) (p i : Nat) : Ac := {s.act i with casts := s.castsW p i}
def excB (s : Sh) (p i : Nat) : Bool := !s.kepB p i && !(s.act i).spare
/-- the new index of an act, or -1 -/
def newI (s : Sh) (p j : Nat) : Int := if s.kepB p j = true then (s.keptTo p j).length else -1
/-- the new indexes so far -/
def atTo (s : Sh) (p i : Nat) : List Int := (List.range s.acts.length).map fun j => if j < i then s.newI p j else 0
def pairW (s : Sh) (p : Nat) (x : Int × Int) : Option (Int × Int) := if 0 ≤ s.newI p x.1.toNat ∧ 0 ≤ s.newI p x.2.toNat then some (s.newI p x.1.toNat, s.newI p x.2.toNat) else none
def befTo (s : Sh) (p q : Nat) : List (Int × Int) := (s.before.take q).filterMap (s.pairW p)
def excep (s : Sh) (p : Nat) : Option Nat := (List.range s.acts.length).find? (s.excB p)
def lessW (s : Sh) (p : Nat) : Sh := {s with acts := (s.keptTo p s.acts.length).map (s.actW p), before := s.befTo p s.before.length}
variable {s : Sh} {p : Nat}
theorem keptTo_succ (i : Nat) : s.keptTo p (i + 1) = if s.kepB p i = true then s.keptTo p i ++ [i] else s.keptTo p i := by
  unfold keptTo
  rw [List.range_succ, List.filter_append]
  by_cases h : s.kepB p i = true
  · rw [if_pos h, List.filter_cons, if_pos h]; rfl
  · rw [if_neg h, List.filter_cons, if_neg h]; simp
theorem keptTo_le (i : Nat) : (s.keptTo p i).length ≤ i := by
  unfold keptTo
  have := List.length_filter_le (s.kepB p) (List.range i)
  rwa [List.length_range] at this
theorem atTo_len (i : Nat) : (s.atTo p i).length = s.acts.length := by unfold atTo; simp
theorem atTo_zero : s.atTo p 0 = tab s.acts.length fun _ => 0 := by unfold atTo tab; simp
theorem atTo_succ {i : Nat} (_hi : i < s.acts.length) : s.atTo p (i + 1) = (s.atTo p i).set i (s.newI p i) := by
  unfold atTo
  refine List.ext_getElem (by simp) (fun j h1 h2 => ?_)
  simp at h1
  rw [List.getElem_set]
  simp only [List.getElem_map, List.getElem_range]
  by_cases hj : i = j
  · subst hj; simp
  · rw [if_neg hj]
    by_cases h : j < i
    · rw [if_pos (by omega), if_pos h]
    · rw [if_neg (by omega), if_neg h]
theorem atTo_at {i j : Nat} (hi : i < s.acts.length) (hj : i < j) : (s.atTo p j)[i]'(by rw [atTo_len]; exact hi) = s.newI p i := by
  unfold atTo; simp [hj]
theorem befTo_succ {q : Nat} (h : q < s.before.length) : s.befTo p (q + 1) = match s.pairW p s.before[q] with | none => s.befTo p q | some y => s.befTo p q ++ [y] := by
  unfold befTo
  rw [List.take_succ_eq_append_getElem h, List.filterMap_append]
  cases hx : s.pairW p s.before[q] with
  | none => rw [List.filterMap_cons, hx]; simp
  | some y => rw [List.filterMap_cons, hx]; simp
theorem befTo_le (q : Nat) : (s.befTo p q).length ≤ s.before.length := by
  unfold befTo
  have := List.length_filterMap_le (s.pairW p) (s.before.take q)
  rw [List.length_take] at this
  omega
theorem newI_bd (j : Nat) : -1 ≤ s.newI p j ∧ s.newI p j ≤ j := by
  unfold newI
  have := keptTo_le (s := s) (p := p) j
  split <;> omega
theorem excep_none (h : ∀ i, i < s.acts.length → s.excB p i = false) : s.excep p = none := by
  unfold excep
  rw [List.find?_eq_none]
  intro i hi
  rw [h i (by simpa using hi)]; simp
theorem excep_some {i : Nat} (hi : i < s.acts.length) (h : ∀ j, j < i → s.excB p j = false) (h2 : s.excB p i = true) : s.excep p = some i := by
  unfold excep
  rw [List.find?_range_eq_some]
  exact ⟨h2, by simpa using hi, fun j hj => by simp [h j hj]⟩
end Sh
end Go.Pg
namespace Go.Proofs.Ytcnidhcdkbfpcaa
open Go.RowKit Go.Bs Go.Pg Go.Pl Go.Sort
/-- the show that is being made: its box T, the new indexes G, the rows -/
structure WoI (e bt : Nat) (W0 : World) (T G : Nat) (s : Sh) (p : Nat) (c1 c2 c3 c4 c5 : Value) (atl : List Int) (kl : List Nat) (bl : List (Int × Int)) (va vk vb : Value) (av : List AcV) (W : World) : Prop where
  be : Dr.Bel [T, G] W0 W
  tb : Blk W T bt [va, c1, c2, c3, c4, c5, vb]
  at' : Blk W G 3 (atl.map (Value.int .i64))
  own : OwnL W W0.heap.size e 5 AcV.enc va av
  eq : av.map AcV.a = kl.map (s.actW p)
  cs : ∀ x ∈ av, OwnL W 0 47 1 encU (.slice x.C x.a.casts.length x.c) x.a.casts
  kp : OwnL W W0.heap.size 3 1 encI vk (toI kl)
  ob : OwnL W W0.heap.size 84 2 encP vb bl
  lt : T < W0.heap.size ∧ G < W0.heap.size
section
variable {e bt : Nat} {W0 W W' : World} {T G : Nat} {s : Sh} {p : Nat} {c1 c2 c3 c4 c5 : Value} {atl : List Int} {kl : List Nat} {bl : List (Int × Int)} {va vk vb : Value} {av : List AcV}
theorem WoI.ext (h : WoI e bt W0 T G s p c1 c2 c3 c4 c5 atl kl bl va vk vb av W) (hb : Below W.heap.size W W') : WoI e bt W0 T G s p c1 c2 c3 c4 c5 atl kl bl va vk vb av W' :=
  ⟨h.be.trans (.of hb), h.tb.ext hb, h.at'.ext hb, h.own.ext hb, h.eq, fun x hx => (h.cs x hx).ext hb, h.kp.ext hb, h.ob.ext hb, h.lt⟩
theorem own_lo {α : Type} {w : World} {base : Nat} {e : TypeId} {sz : Nat} {enc : α → List Value} {v : Value} {l : List α} (h : OwnL w base e sz enc v l) {k : Nat} (hk : k < base) : v.ownBlock ≠ some k := fun e => by
  have := (h.lt e).1
  omega
theorem bel_grown2 {M : List Nat} {row : Option Nat} (h : Dr.Bel M W0 W) (hg : W.grownBy W' row) (hr : ∀ k, row = some k → W0.heap.size ≤ k) : Dr.Bel M W0 W' :=
  ⟨hg.os.trans h.os, hg.tape.trans h.tape, hg.output.trans h.output, Nat.le_trans h.size hg.size, fun k hk hm => (hg.block k (Nat.lt_of_lt_of_le hk h.size) (fun e => by have := hr k e.symm; omega)).trans (h.block k hk hm)⟩
theorem blk_grown {row : Option Nat} {B U : Nat} {cs : List Value} (h : Blk W B U cs) (hg : W.grownBy W' row) (hr : row ≠ some B) : Blk W' B U cs := (hg.block B h.lt (fun e => hr e.symm)).trans h
/-- a new index -/
theorem WoI.setG (h : WoI e bt W0 T G s p c1 c2 c3 c4 c5 atl kl bl va vk vb av W) (he : e ≠ 3) (hbt : bt ≠ 3) (i : Nat) (x : Int) : WoI e bt W0 T G s p c1 c2 c3 c4 c5 (atl.set i x) kl bl va vk vb av (W.setCell ⟨G, i, none⟩ (.int .i64 x)) := by
  have hTG : T ≠ G := fun e1 => by
    have h1 := h.tb
    rw [e1] at h1
    have h2 := h.at'
    unfold Blk at h1 h2
    rw [h1] at h2
    simp only [Option.some.injEq, Obj.cells.injEq] at h2
    exact hbt h2.2.1
  refine ⟨h.be.put (by simp) _, h.tb.other hTG _, by rw [List.map_set]; exact h.at'.set i _, OwnL.othr h.own h.at' he.symm i _, h.eq, fun x hx => OwnL.othr (h.cs x hx) h.at' (by decide) i _, h.kp.put (own_lo h.kp h.lt.2) _, OwnL.othr h.ob h.at' (by decide) i _, h.lt⟩
/-- one act more -/
theorem WoI.snoc {W1 W2 W3 : World} {v' vk' : Value} {x : AcV} {i : Nat} (h : WoI e bt W0 T G s p c1 c2 c3 c4 c5 atl kl bl va vk vb av W) (he3 : e ≠ 3) (he47 : e ≠ 47) (he84 : e ≠ 84) (hbe : bt ≠ e) (hb3 : bt ≠ 3) (hb47 : bt ≠ 47) (hb84 : bt ≠ 84)
    (hx : OwnL W 0 47 1 encU (.slice x.C x.a.casts.length x.c) x.a.casts) (ha : x.a = s.actW p i) (h1 : OwnL W1 W0.heap.size e 5 AcV.enc v' (av ++ [x])) (g1 : W.grownBy W1 va.ownBlock) (hb : Below W1.heap.size W1 W2)
    (h2 : OwnL W3 W0.heap.size 3 1 encI vk' (toI (kl ++ [i]))) (g2 : W2.grownBy W3 vk.ownBlock) : WoI e bt W0 T G s p c1 c2 c3 c4 c5 atl (kl ++ [i]) bl v' vk' vb (av ++ [x]) (W3.setCell ⟨T, 0, none⟩ v') := by
  have hlo1 : ∀ k, va.ownBlock = some k → W0.heap.size ≤ k := fun k hk => (h.own.lt hk).1
  have hlo2 : ∀ k, vk.ownBlock = some k → W0.heap.size ≤ k := fun k hk => (h.kp.lt hk).1
  have hT1 : va.ownBlock ≠ some T := own_lo h.own h.lt.1
  have hT2 : vk.ownBlock ≠ some T := own_lo h.kp h.lt.1
  have hG1 : va.ownBlock ≠ some G := own_lo h.own h.lt.2
  have hG2 : vk.ownBlock ≠ some G := own_lo h.kp h.lt.2
  have tb3 := blk_grown ((blk_grown h.tb g1 hT1).ext hb) g2 hT2
  have at3 := blk_grown ((blk_grown h.at' g1 hG1).ext hb) g2 hG2
  have kp2 := (h.kp.kept g1 (own_own h.kp h.own he3.symm)).ext hb
  have own3 := (h1.ext hb).kept g2 (own_own (h1.ext hb) kp2 he3)
  have ob2 := (h.ob.kept g1 (own_own h.ob h.own he84.symm)).ext hb
  have ob3 := ob2.kept g2 (own_own ob2 kp2 (by decide))
  have cs3 : ∀ {y : AcV}, OwnL W 0 47 1 encU (.slice y.C y.a.casts.length y.c) y.a.casts → OwnL W3 0 47 1 encU (.slice y.C y.a.casts.length y.c) y.a.casts := fun hy => by
    have c2 := (hy.kept g1 (own_own hy h.own he47.symm)).ext hb
    exact c2.kept g2 (own_own c2 kp2 (by decide))
  refine ⟨((bel_grown2 (((bel_grown2 h.be g1 hlo1)).trans (.of hb)) g2 hlo2)).put (by simp) _, by simpa using tb3.set 0 v', at3.other (fun e1 => ?_) _, OwnL.othr own3 tb3 hbe 0 _, by rw [List.map_append, List.map_append, h.eq]; simp [ha], fun y hy => ?_, OwnL.othr h2 tb3 hb3 0 _, OwnL.othr ob3 tb3 hb84 0 _, h.lt⟩
  · have h5 := tb3
    simp only at e1
    rw [← e1] at h5
    have h6 := at3
    unfold Blk at h5 h6
    rw [h5] at h6
    simp only [Option.some.injEq, Obj.cells.injEq] at h6
    exact hb3 h6.2.1
  · rcases List.mem_append.1 hy with hy | hy
    · exact OwnL.othr (cs3 (h.cs y hy)) tb3 hb47 0 _
    · rw [List.mem_singleton] at hy
      subst hy
      exact OwnL.othr (cs3 hx) tb3 hb47 0 _
/-- one pair more -/
theorem WoI.pair {W1 : World} {v' : Value} {y : Int × Int} (h : WoI e bt W0 T G s p c1 c2 c3 c4 c5 atl kl bl va vk vb av W) (he84 : e ≠ 84) (hbe : bt ≠ e) (hb3 : bt ≠ 3) (hb47 : bt ≠ 47) (hb84 : bt ≠ 84)
    (h1 : OwnL W1 W0.heap.size 84 2 encP v' (bl ++ [y])) (g1 : W.grownBy W1 vb.ownBlock) : WoI e bt W0 T G s p c1 c2 c3 c4 c5 atl kl (bl ++ [y]) va vk v' av (W1.setCell ⟨T, 6, none⟩ v') := by
  have hlo1 : ∀ k, vb.ownBlock = some k → W0.heap.size ≤ k := fun k hk => (h.ob.lt hk).1
  have hT1 : vb.ownBlock ≠ some T := own_lo h.ob h.lt.1
  have hG1 : vb.ownBlock ≠ some G := own_lo h.ob h.lt.2
  have tb1 := blk_grown h.tb g1 hT1
  have at1 := blk_grown h.at' g1 hG1
  have own1 := h.own.kept g1 (own_own h.own h.ob he84)
  have kp1 := h.kp.kept g1 (own_own h.kp h.ob (by decide))
  refine ⟨(bel_grown2 h.be g1 hlo1).put (by simp) _, by simpa using tb1.set 6 v', at1.other (fun e1 => ?_) _, OwnL.othr own1 tb1 hbe 6 _, h.eq, fun x hx => OwnL.othr ((h.cs x hx).kept g1 (own_own (h.cs x hx) h.ob (by decide))) tb1 hb47 6 _, OwnL.othr kp1 tb1 hb3 6 _, OwnL.othr h1 tb1 hb84 6 _, h.lt⟩
  have h5 := tb1
  simp only at e1
  rw [← e1] at h5
  have h6 := at1
  unfold Blk at h5 h6
  rw [h5] at h6
  simp only [Option.some.injEq, Obj.cells.injEq] at h6
  exact hb3 h6.2.1
end
theorem OwnL.same {α : Type} {w w' : World} {base : Nat} {e : TypeId} {sz : Nat} {enc : α → List Value} {v : Value} {l : List α} (h : OwnL w base e sz enc v l) (hb : ∀ k, v.ownBlock = some k → w'.heap[k]? = w.heap[k]?) : OwnL w' base e sz enc v l := by
  refine ⟨h.1, ?_⟩
  rcases h.2 with h1 | ⟨g, cap, cur, h1, h2, h3, h4⟩
  · exact .inl h1
  · exact .inr ⟨g, cap, cur, h1, h2, by rw [hb g (by rw [h1]; rfl)]; exact h3, h4⟩
end Go.Proofs.Ytcnidhcdkbfpcaa

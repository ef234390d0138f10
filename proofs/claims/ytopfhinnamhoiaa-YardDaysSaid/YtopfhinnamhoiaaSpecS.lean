/- The spare load of a node, as plain data. -/
import Derived.Test.YtopfhinnamhoiaaGridD
namespace Go.Proofs.Ytopfhinnamhoiaa
open Go.Yd Go.Pl

/-- the nodes from i up to the root, the root left out -/
def Gd.up (g : Gd) : Nat → Nat → List Nat
  | 0, _ => []
  | k + 1, i => if i = 0 then [] else i :: Gd.up g k (g.par i)
def mst1 (g : Gd) (m : Int) (l : List Nat) : Int := l.foldl (fun m i => if Gd.fuseOf g i - Gd.fhi g i < m then Gd.fuseOf g i - Gd.fhi g i else m) m
/-- by how much a watt more raises each drop, when the first k nodes are reckoned; on: the nodes that it flows through -/
def Gd.rs (g : Gd) (on : Nat → Bool) : Nat → Nat → Int
  | 0 => fun _ => 0
  | k + 1 => if 0 < k then upd (Gd.rs g on k) k (Gd.rs g on k (g.par k) + if on k then (g.node k).sag else 0) else Gd.rs g on k
def stp2 (g : Gd) (r : Int) (m : Int) (i : Nat) : Int := if 0 < r then (if (g.limit - Gd.dhi g i).tdiv r < m then (g.limit - Gd.dhi g i).tdiv r else m) else m
def mst2 (g : Gd) (on : Nat → Bool) (m : Int) : Nat → Int
  | 0 => m
  | k + 1 => stp2 g (Gd.rs g on (k + 1) k) (mst2 g on m k) k
def Gd.spare (g : Gd) (x : Nat) : Int := mst2 g (fun i => decide (i ∈ Gd.up g x x)) (mst1 g 1000000 (Gd.up g x x)) g.nodes.length
def Gd.bad (g : Gd) : Bool := decide (0 < (overN (Gd.fuseOf g) (Gd.fhi g) g.nodes.length).length + (overN (fun _ => g.limit) (Gd.dhi g) g.nodes.length).length)
def spareR (g : Gd) (x : Int) : Int × Int :=
  if g.okB then (if 0 ≤ x ∧ x ≤ (g.nodes.length : Int) - 1 then (if Gd.bad g then (0, 9) else (Gd.spare g x.toNat, 0)) else (0, 2)) else (0, 1)
/-- a row of Booleans -/
def tabB (n : Nat) (f : Nat → Bool) : List Go.Value := (List.range n).map fun i => Go.Value.bool (f i)
def updB (f : Nat → Bool) (k : Nat) : Nat → Bool := fun i => if i = k then true else f i
theorem tabB_get {n : Nat} (f : Nat → Bool) {i : Nat} (h : i < n) : (tabB n f)[i]? = some (.bool (f i)) := by simp [tabB, h]
theorem tabB_set (n : Nat) (f : Nat → Bool) (k : Nat) : (tabB n f).set k (.bool true) = tabB n (updB f k) := by
  apply List.ext_getElem?
  intro i
  rw [List.getElem?_set]
  by_cases hi : i < n
  · rw [tabB_get _ hi, tabB_get _ hi]
    by_cases e : k = i
    · subst e; simp [tabB, hi, updB]
    · rw [if_neg e]; simp [updB, Ne.symm e]
  · rw [List.getElem?_eq_none (by simp [tabB]; omega), List.getElem?_eq_none (by simp [tabB]; omega)]
    split
    · rw [if_neg (by simp [tabB]; omega)]
    · rfl
theorem Gd.up_lt {g : Gd} (h : g.ok) : ∀ (k i j : Nat), i < g.nodes.length → j ∈ Gd.up g k i → 0 < j ∧ j < g.nodes.length
  | 0, i, j, _, hj => by simp [Gd.up] at hj
  | k + 1, i, j, hi, hj => by
    unfold Gd.up at hj
    split at hj
    · simp at hj
    · rename_i h0
      rcases List.mem_cons.1 hj with rfl | hj
      · exact ⟨by omega, hi⟩
      · exact Gd.up_lt h k (g.par i) j (by have := Gd.par_lt h (by omega) hi; omega) hj
theorem Gd.fhi_bd {g : Gd} (h : g.ok) (i : Nat) : 0 ≤ Gd.fhi g i ∧ Gd.fhi g i ≤ 30000000 := by
  have hl := h.len
  have hhi : ∀ i, i < g.nodes.length → 0 ≤ g.hi i ∧ g.hi i ≤ 1000000 := fun i hi => by
    have := (h.nodes i hi).load
    unfold Gd.hi; omega
  have := (g.fl_bd h hhi _ (Nat.le_refl _)).1 i
  unfold Gd.fhi Gd.flow; omega
theorem Gd.dhi_bd {g : Gd} (h : g.ok) (i : Nat) : 0 ≤ Gd.dhi g i ∧ Gd.dhi g i ≤ 900000000000 := by
  have hl := h.len
  have := g.dr_bd h (Gd.fhi_bd h) _ (Nat.le_refl _) i
  unfold Gd.dhi Gd.drop
  unfold Gd.fhi at this
  omega
theorem Gd.fuseOf_bd {g : Gd} (h : g.ok) {i : Nat} (hi : i < g.nodes.length) : 0 ≤ Gd.fuseOf g i ∧ Gd.fuseOf g i ≤ 1000000000000 := by
  unfold Gd.fuseOf
  split
  · omega
  · have := (h.nodes i hi).inn (by omega); omega
theorem Gd.rs_bd {g : Gd} (h : g.ok) (on : Nat → Bool) : ∀ k, k ≤ g.nodes.length → ∀ i, 0 ≤ Gd.rs g on k i ∧ Gd.rs g on k i ≤ k * 1000
  | 0, _, i => by simp [Gd.rs]
  | k + 1, hk, i => by
    have ih := Gd.rs_bd h on k (by omega)
    have hx : ((k + 1 : Nat) : Int) * 1000 = k * 1000 + 1000 := by rw [Int.natCast_add, Int.add_mul]; simp
    unfold Gd.rs
    split
    · rename_i h0
      have h1 := ((h.nodes k (by omega)).inn h0).2.2
      have h3 := ih (g.par k)
      by_cases e : i = k
      · subst e; rw [upd_self, hx]; split <;> omega
      · rw [upd_ne _ _ e, hx]; have := ih i; omega
    · have := ih i; rw [hx]; omega
theorem Gd.not_bad {g : Gd} (h : Gd.bad g = false) : (∀ i, i < g.nodes.length → Gd.fhi g i ≤ Gd.fuseOf g i) ∧ ∀ i, i < g.nodes.length → Gd.dhi g i ≤ g.limit := by
  have h1 : (overN (Gd.fuseOf g) (Gd.fhi g) g.nodes.length).length = 0 ∧ (overN (fun _ => g.limit) (Gd.dhi g) g.nodes.length).length = 0 := by
    have := of_decide_eq_false h; omega
  have key : ∀ (lim f : Nat → Int), (overN lim f g.nodes.length).length = 0 → ∀ i, i < g.nodes.length → f i ≤ lim i := by
    intro lim f h0 i hi
    have h2 := List.length_eq_zero_iff.1 h0
    unfold overN at h2
    have h3 := (List.filter_eq_nil_iff.1 h2) i (by simp [hi])
    simp at h3
    exact h3
  exact ⟨key _ _ h1.1, key _ _ h1.2⟩
end Go.Proofs.Ytopfhinnamhoiaa

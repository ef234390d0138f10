/- The grid as plain data: validity, flows, drops. -/
import Derived.Test.YtopfhinnamhoiaaSpec
namespace Go.Yd
open Go.Pl
def Gd.node (g : Gd) (i : Nat) : Nd := g.nodes.getD i default
theorem Gd.node_get {g : Gd} {i : Nat} (h : i < g.nodes.length) : g.nodes[i] = g.node i := by simp [Gd.node, h]
def ndIn (i : Nat) (d : Nd) : Bool := decide ((0 : Int) ≤ d.parent ∧ d.parent ≤ (i : Int) - 1) && (decide ((0 : Int) ≤ d.fuse ∧ d.fuse ≤ 10000000) && decide ((0 : Int) ≤ d.sag ∧ d.sag ≤ 1000))
def ndRoot (d : Nd) : Bool := (d.parent == -1) && ((d.fuse == 0) && (d.sag == 0))
def ndLoad (d : Nd) : Bool := decide (0 ≤ d.load.lo) && (decide (d.load.lo ≤ d.load.hi) && decide (d.load.hi ≤ 1000000))
def ndSel (i : Nat) (d : Nd) : Bool := if i = 0 then ndRoot d else ndIn i d
def ndB (i : Nat) (d : Nd) : Bool := ndSel i d && ndLoad d
def Gd.allB (g : Gd) : Nat → Nat → Bool
  | 0, _ => true
  | k + 1, i => ndB i (g.node i) && g.allB k (i + 1)
def Gd.okB (g : Gd) : Bool := decide ((1 : Int) ≤ g.nodes.length ∧ (g.nodes.length : Int) ≤ 30) && (decide (0 ≤ g.limit ∧ g.limit ≤ 1000000000000) && g.allB g.nodes.length 0)
structure Nd.okAt (i : Nat) (d : Nd) : Prop where
  load : 0 ≤ d.load.lo ∧ d.load.lo ≤ d.load.hi ∧ d.load.hi ≤ 1000000
  root : i = 0 → d.parent = -1 ∧ d.fuse = 0 ∧ d.sag = 0
  inn : 0 < i → (0 ≤ d.parent ∧ d.parent < i) ∧ (0 ≤ d.fuse ∧ d.fuse ≤ 10000000) ∧ (0 ≤ d.sag ∧ d.sag ≤ 1000)
structure Gd.ok (g : Gd) : Prop where
  len : 1 ≤ g.nodes.length ∧ g.nodes.length ≤ 30
  lim : 0 ≤ g.limit ∧ g.limit ≤ 1000000000000
  nodes : ∀ i, i < g.nodes.length → (g.node i).okAt i
theorem ndB_iff (i : Nat) (d : Nd) : ndB i d = true ↔ d.okAt i := by
  unfold ndB ndSel
  rw [Bool.and_eq_true]
  have hl : ndLoad d = true ↔ (0 ≤ d.load.lo ∧ d.load.lo ≤ d.load.hi ∧ d.load.hi ≤ 1000000) := by simp [ndLoad]
  rw [hl]
  constructor
  · rintro ⟨h1, h2⟩
    split at h1
    · rename_i h0
      simp [ndRoot] at h1
      exact ⟨h2, fun _ => h1, fun h3 => by omega⟩
    · rename_i h0
      simp [ndIn] at h1
      exact ⟨h2, fun h3 => absurd h3 h0, fun h3 => ⟨⟨h1.1.1, by omega⟩, h1.2⟩⟩
  · rintro ⟨h1, h2, h3⟩
    refine ⟨?_, h1⟩
    split
    · rename_i h0
      simp [ndRoot, h2 h0]
    · rename_i h0
      have h4 := h3 (by omega)
      have h5 : d.parent ≤ (i : Int) - 1 := by omega
      simp only [ndIn, decide_eq_true (And.intro h4.1.1 h5), decide_eq_true h4.2.1, decide_eq_true h4.2.2, Bool.and_self]
theorem Gd.allB_iff (g : Gd) : ∀ (k i : Nat), g.allB k i = true ↔ ∀ j, i ≤ j → j < i + k → (g.node j).okAt j
  | 0, i => by simp [Gd.allB]; intro j h1 h2; omega
  | k + 1, i => by
    unfold Gd.allB
    rw [Bool.and_eq_true, ndB_iff, g.allB_iff k (i + 1)]
    constructor
    · rintro ⟨h1, h2⟩ j h3 h4
      by_cases e : j = i
      · subst e; exact h1
      · exact h2 j (by omega) (by omega)
    · intro h
      exact ⟨h i (Nat.le_refl _) (by omega), fun j h1 h2 => h j (by omega) (by omega)⟩
theorem Gd.okB_iff (g : Gd) : g.okB = true ↔ g.ok := by
  unfold Gd.okB
  rw [Bool.and_eq_true, Bool.and_eq_true, decide_eq_true_eq, decide_eq_true_eq, g.allB_iff]
  constructor
  · rintro ⟨h1, h2, h3⟩; exact ⟨by omega, h2, fun i hi => h3 i (by omega) (by omega)⟩
  · rintro ⟨h1, h2, h3⟩; exact ⟨by omega, h2, fun j h4 h5 => h3 j (by omega)⟩

/-- a node's number of the node that feeds it -/
def Gd.par (g : Gd) (i : Nat) : Nat := (g.node i).parent.toNat
/-- what flows when the last m nodes have handed theirs on; l: a load of each node -/
def Gd.fl (g : Gd) (l : Nat → Int) : Nat → Nat → Int
  | 0 => fun _ => 0
  | m + 1 =>
    let f := g.fl l m
    let i := g.nodes.length - 1 - m
    let f1 := upd f i (f i + l i)
    if 0 < i then upd f1 (g.par i) (f1 (g.par i) + f1 i) else f1
def Gd.flow (g : Gd) (l : Nat → Int) : Nat → Int := g.fl l g.nodes.length
def Gd.dr (g : Gd) (f : Nat → Int) : Nat → Nat → Int
  | 0 => fun _ => 0
  | i + 1 => let d := g.dr f i; if 0 < i then upd d i (d (g.par i) + (g.node i).sag * f i) else d
def Gd.drop (g : Gd) (f : Nat → Int) : Nat → Int := g.dr f g.nodes.length
def Gd.lo (g : Gd) (i : Nat) : Int := (g.node i).load.lo
def Gd.hi (g : Gd) (i : Nat) : Int := (g.node i).load.hi

/-- the sum of f below k -/
def tot (f : Nat → Int) : Nat → Int
  | 0 => 0
  | k + 1 => tot f k + f k
theorem tot_upd_ge (f : Nat → Int) (i : Nat) (v : Int) : ∀ k, k ≤ i → tot (upd f i v) k = tot f k
  | 0, _ => rfl
  | k + 1, h => by
    unfold tot
    rw [tot_upd_ge f i v k (by omega), upd_ne _ _ (by omega)]
theorem tot_upd_lt (f : Nat → Int) (i : Nat) (v : Int) : ∀ k, i < k → tot (upd f i v) k = tot f k - f i + v
  | 0, h => by omega
  | k + 1, h => by
    unfold tot
    by_cases e : i = k
    · subst e; rw [tot_upd_ge _ _ _ _ (Nat.le_refl _), upd_self]; omega
    · rw [tot_upd_lt f i v k (by omega), upd_ne _ _ (by omega)]; omega
theorem tot_ge {f : Nat → Int} (h : ∀ i, 0 ≤ f i) : ∀ k i, i < k → f i ≤ tot f k ∧ 0 ≤ tot f k
  | 0, i, hi => by omega
  | k + 1, i, hi => by
    unfold tot
    have h0 : 0 ≤ tot f k := by
      cases k with
      | zero => simp [tot]
      | succ k => exact (tot_ge h (k + 1) 0 (by omega)).2
    have := h k
    by_cases e : i = k
    · subst e; exact ⟨by omega, by omega⟩
    · have := tot_ge h k i (by omega); exact ⟨by omega, by omega⟩
theorem Gd.par_lt {g : Gd} (h : g.ok) {i : Nat} (h0 : 0 < i) (hi : i < g.nodes.length) : g.par i < i ∧ (g.node i).parent = g.par i := by
  have := (h.nodes i hi).inn h0
  unfold Gd.par
  omega
theorem Gd.fl_bd {g : Gd} (h : g.ok) {l : Nat → Int} (hl : ∀ i, i < g.nodes.length → 0 ≤ l i ∧ l i ≤ 1000000) : ∀ m, m ≤ g.nodes.length →
    (∀ i, 0 ≤ g.fl l m i ∧ g.fl l m i ≤ m * 1000000) ∧ tot (g.fl l m) (g.nodes.length - m) ≤ m * 1000000
  | 0, _ => ⟨fun i => by simp [Gd.fl], by
      have : ∀ k, tot (fun _ => 0) k = 0 := by intro k; induction k with | zero => rfl | succ k ih => simp [tot, ih]
      show tot (fun _ => 0) _ ≤ _
      rw [this]; simp⟩
  | m + 1, hm => by
    obtain ⟨ih1, ih2⟩ := g.fl_bd h hl m (by omega)
    have hlm := hl (g.nodes.length - 1 - m) (by omega)
    generalize hi : g.nodes.length - 1 - m = i at hlm
    have hk : g.nodes.length - m = i + 1 := by omega
    have hk2 : g.nodes.length - (m + 1) = i := by omega
    rw [hk] at ih2
    rw [hk2]
    generalize hf : g.fl l m = f at *
    have e1 : g.fl l (m + 1) = if 0 < i then upd (upd f i (f i + l i)) (g.par i) ((upd f i (f i + l i)) (g.par i) + (upd f i (f i + l i)) i) else upd f i (f i + l i) := by
      unfold Gd.fl
      simp only [hf, hi]
    unfold tot at ih2
    have hfi := ih1 i
    have h0t : 0 ≤ tot f i := by
      cases i with
      | zero => simp [tot]
      | succ k => exact (tot_ge (fun j => (ih1 j).1) (k + 1) 0 (by omega)).2
    have b1 : f i + l i ≤ (m + 1 : Nat) * 1000000 := by rw [Int.natCast_add, Int.add_mul]; simp only [Int.cast_ofNat_Int]; omega
    rw [e1]
    split
    · rename_i hpos
      have hp := Gd.par_lt h hpos (by omega)
      have hne : g.par i ≠ i := by omega
      rw [upd_self, upd_ne _ _ hne]
      have hpt := tot_ge (fun j => (ih1 j).1) i (g.par i) hp.1
      have hfp := ih1 (g.par i)
      have b2 : f (g.par i) + (f i + l i) ≤ (m + 1 : Nat) * 1000000 := by rw [Int.natCast_add, Int.add_mul]; simp only [Int.cast_ofNat_Int]; omega
      refine ⟨fun j => ?_, ?_⟩
      · by_cases e : j = g.par i
        · subst e; rw [upd_self]; exact ⟨by omega, b2⟩
        · rw [upd_ne _ _ e]
          by_cases e2 : j = i
          · subst e2; rw [upd_self]; exact ⟨by omega, b1⟩
          · rw [upd_ne _ _ e2]; have := ih1 j; rw [Int.natCast_add, Int.add_mul]; simp only [Int.cast_ofNat_Int]; omega
      · rw [tot_upd_lt _ _ _ _ hp.1, tot_upd_ge _ _ _ _ (Nat.le_refl _), upd_ne _ _ hne]
        rw [Int.natCast_add, Int.add_mul]; simp only [Int.cast_ofNat_Int]; omega
    · rename_i hpos
      have hz : i = 0 := by omega
      refine ⟨fun j => ?_, ?_⟩
      · by_cases e2 : j = i
        · subst e2; rw [upd_self]; exact ⟨by omega, b1⟩
        · rw [upd_ne _ _ e2]; have := ih1 j; rw [Int.natCast_add, Int.add_mul]; simp only [Int.cast_ofNat_Int]; omega
      · rw [hz]; simp only [tot]; omega
theorem Gd.dr_bd {g : Gd} (h : g.ok) {f : Nat → Int} (hf : ∀ i, 0 ≤ f i ∧ f i ≤ 30000000) : ∀ m, m ≤ g.nodes.length → ∀ i, 0 ≤ g.dr f m i ∧ g.dr f m i ≤ m * 30000000000
  | 0, _, i => by simp [Gd.dr]
  | m + 1, hm, i => by
    have ih := g.dr_bd h hf m (by omega)
    have hx : ((m + 1 : Nat) : Int) * 30000000000 = m * 30000000000 + 30000000000 := by rw [Int.natCast_add, Int.add_mul]; simp
    unfold Gd.dr
    simp only
    split
    · rename_i h0
      have h1 := (h.nodes m (by omega)).inn h0
      have h2 := mul_bd h1.2.2.1 h1.2.2.2 (hf m).1 (hf m).2
      have h3 := ih (g.par m)
      by_cases e : i = m
      · subst e; rw [upd_self, hx]; omega
      · rw [upd_ne _ _ e, hx]; have := ih i; omega
    · have := ih i; rw [hx]; omega
end Go.Yd

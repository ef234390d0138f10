/- Engines, as plain data. -/
import Derived.Test.YtopfhinnamhoiaaSortP
import Derived.Test.YtopfhinnamhoiaaRoadW
namespace Go.Yd
open Go.Pl
def engB (m : Eng) : Bool := decide (0 ≤ m.most ∧ m.most ≤ 10000000) && (decide (0 ≤ m.idle ∧ m.idle ≤ 100000) && decide (0 ≤ m.per ∧ m.per ≤ 10000))
def Eng.ok (m : Eng) : Prop := (0 ≤ m.most ∧ m.most ≤ 10000000) ∧ (0 ≤ m.idle ∧ m.idle ≤ 100000) ∧ (0 ≤ m.per ∧ m.per ≤ 10000)
theorem engB_iff (m : Eng) : engB m = true ↔ m.ok := by simp [engB, Eng.ok]
def engs (l : List Eng) (i : Nat) : Eng := l.getD i default
def engOk (l : List Eng) : Prop := (1 ≤ l.length ∧ l.length ≤ 6) ∧ ∀ m ∈ l, m.ok
theorem engs_get {l : List Eng} {i : Nat} (h : i < l.length) : engs l i = l[i] := by simp [engs, h]
theorem engs_ok {l : List Eng} (h : engOk l) {i : Nat} (hi : i < l.length) : (engs l i).ok := by rw [engs_get hi]; exact h.2 _ (List.getElem_mem hi)
/-- the numbers of a set -/
def setN (n s : Nat) : List Nat := (List.range n).filter (fun i => s.testBit i)
theorem mem_setN {n s i : Nat} : i ∈ setN n s ↔ i < n ∧ s.testBit i = true := by simp [setN]
/-- one engine more: what is left of the load, and what it costs -/
def burn (l : List Eng) (a : Int × Int) (i : Nat) : Int × Int := (a.1 + (1000 * (engs l i).idle + min a.2 (engs l i).most * (engs l i).per), a.2 - min a.2 (engs l i).most)
/-- the engines of a set by their rank -/
def rankS (l : List Eng) (s : Nat) : List Nat := ((rankL (fun i => (engs l i.toNat).per) l.length).map Int.toNat).filter (fun i => s.testBit i)
def mostS (l : List Eng) (s : Nat) : Int := isum ((setN l.length s).map fun i => (engs l i).most)
def idleS (l : List Eng) (s : Nat) : Int := isum ((setN l.length s).map fun i => (engs l i).idle)
/-- fuel and what is left -/
def fuelS (l : List Eng) (s : Nat) (load : Int) : Int × Int := (rankS l s).foldl (burn l) (0, load)
theorem isum_perm {a b : List Int} (h : a.Perm b) : isum a = isum b := by
  induction h with
  | nil => rfl
  | cons x _ ih => simp [isum, ih]
  | swap x y l => simp only [isum]; omega
  | trans _ _ h1 h2 => exact h1.trans h2
theorem rank_toNat (key : Int → Int) (n : Nat) : ((rankL key n).map Int.toNat).Perm (List.range n) := by
  refine ((rank_spec key n).1.map Int.toNat).trans ?_
  have : (upto n).map Int.toNat = List.range n := by
    unfold upto
    rw [List.map_map]
    exact List.map_id'' (fun i => by simp) _
  rw [this]
theorem rankS_perm (l : List Eng) (s : Nat) : (rankS l s).Perm (setN l.length s) := (rank_toNat _ _).filter _
theorem rankS_mem {l : List Eng} {s i : Nat} : i ∈ rankS l s ↔ i < l.length ∧ s.testBit i = true := by rw [(rankS_perm l s).mem_iff, mem_setN]
/-- what burning leaves: the load less all that the engines make, but not below 0 -/
theorem burn_left (l : List Eng) : ∀ (R : List Nat) (a : Int × Int), 0 ≤ a.2 → (∀ i ∈ R, 0 ≤ (engs l i).most) → (R.foldl (burn l) a).2 = max 0 (a.2 - isum (R.map fun i => (engs l i).most))
  | [], a, h, _ => by simp [isum]; omega
  | i :: R, a, h, hm => by
    have h0 := hm i (by simp)
    rw [List.foldl_cons, burn_left l R (burn l a i) (by unfold burn; simp only; omega) (fun j hj => hm j (by simp [hj]))]
    unfold burn
    simp only [List.map_cons, isum]
    have h1 : 0 ≤ isum (R.map fun i => (engs l i).most) := isum_nonneg (fun y hy => by obtain ⟨j, hj, rfl⟩ := List.mem_map.1 hy; exact hm j (by simp [hj]))
    omega
/-- the greatest of them -/
def topS (l : List Eng) (R : List Nat) : Int := R.foldl (fun g i => max g (engs l i).most) 0
theorem topS_ge (l : List Eng) : ∀ (R : List Nat) (g : Int), g ≤ R.foldl (fun g i => max g (engs l i).most) g ∧ ∀ i ∈ R, (engs l i).most ≤ R.foldl (fun g i => max g (engs l i).most) g
  | [], g => by simp
  | i :: R, g => by
    obtain ⟨h1, h2⟩ := topS_ge l R (max g (engs l i).most)
    rw [List.foldl_cons]
    refine ⟨by omega, fun j hj => ?_⟩
    rcases List.mem_cons.1 hj with rfl | hj
    · omega
    · exact h2 j hj
theorem topS_hit (l : List Eng) : ∀ (R : List Nat) (g : Int), R.foldl (fun g i => max g (engs l i).most) g = g ∨ ∃ i ∈ R, R.foldl (fun g i => max g (engs l i).most) g = (engs l i).most
  | [], g => .inl rfl
  | i :: R, g => by
    rw [List.foldl_cons]
    rcases topS_hit l R (max g (engs l i).most) with h | ⟨j, hj, h⟩
    · by_cases hg : (engs l i).most ≤ g
      · exact .inl (by rw [h]; omega)
      · exact .inr ⟨i, by simp, by rw [h]; omega⟩
    · exact .inr ⟨j, by simp [hj], h⟩
/-- does a set carry a load, with a need of others? -/
def carryS (l : List Eng) (s : Nat) (load need : Int) : Bool := decide (setN l.length s ≠ []) && (decide (load ≤ mostS l s) && (setN l.length s).all (fun i => decide (need ≤ mostS l s - (engs l i).most)))
theorem carry_iff {l : List Eng} {s : Nat} {load need : Int} : carryS l s load need = true ↔ setN l.length s ≠ [] ∧ load ≤ mostS l s ∧ ∀ i ∈ setN l.length s, need ≤ mostS l s - (engs l i).most := by
  simp [carryS]
theorem mostS_rank (l : List Eng) (s : Nat) : isum ((rankS l s).map fun i => (engs l i).most) = mostS l s := isum_perm ((rankS_perm l s).map _)
/-- the program's test is the document's -/
theorem fuel_is {l : List Eng} (hok : engOk l) {s : Nat} (hs : s < 2 ^ l.length) {load need : Int} (hl : 0 ≤ load) (hn : 0 ≤ need) :
    (decide (0 < s) && (((fuelS l s load).2 == 0) && decide (need ≤ mostS l s - topS l (rankS l s)))) = carryS l s load need := by
  have hm : ∀ i ∈ rankS l s, 0 ≤ (engs l i).most := fun i hi => (engs_ok hok (rankS_mem.1 hi).1).1.1
  have h1 := burn_left l (rankS l s) (0, load) hl hm
  rw [mostS_rank] at h1
  have h2 : 0 < s ↔ setN l.length s ≠ [] := by
    constructor
    · intro h h3
      obtain ⟨i, hi⟩ := Nat.exists_testBit_of_ne_zero (show s ≠ 0 by omega)
      have hil : i < l.length := by
        rcases Nat.lt_or_ge i l.length with h4 | h4
        · exact h4
        · rw [Nat.testBit_lt_two_pow (Nat.lt_of_lt_of_le hs (Nat.pow_le_pow_right (by omega) h4))] at hi
          cases hi
      have := mem_setN.2 ⟨hil, hi⟩
      rw [h3] at this
      cases this
    · intro h
      obtain ⟨i, hi⟩ := List.exists_mem_of_ne_nil _ h
      have := (mem_setN.1 hi).2
      rcases Nat.eq_zero_or_pos s with h0 | h0
      · subst h0; simp at this
      · exact h0
  have h3 := topS_ge l (rankS l s) 0
  have h4 := topS_hit l (rankS l s) 0
  have hpm := rankS_perm l s
  rw [Bool.eq_iff_iff, carry_iff]
  simp only [Bool.and_eq_true, decide_eq_true_eq, beq_iff_eq]
  unfold fuelS
  rw [h1, h2]
  constructor
  · rintro ⟨a, b, c⟩
    refine ⟨a, by simp only at b; omega, fun i hi => ?_⟩
    have := h3.2 i (hpm.mem_iff.2 hi)
    unfold topS at c
    omega
  · rintro ⟨a, b, c⟩
    refine ⟨a, by simp only; omega, ?_⟩
    unfold topS
    rcases h4 with h4 | ⟨i, hi, h4⟩
    · obtain ⟨i, hi⟩ := List.exists_mem_of_ne_nil _ a
      have := c i hi
      have := h3.2 i (hpm.mem_iff.2 hi)
      have := hm i (hpm.mem_iff.2 hi)
      rw [h4] at *
      omega
    · have := c i (hpm.mem_iff.1 hi)
      rw [h4]; exact this
/-- the best set so far -/
def bestTo (l : List Eng) (load need : Int) : Nat → Nat
  | 0 => 0
  | s + 1 => if carryS l s load need = true ∧ (bestTo l load need s = 0 ∨ (fuelS l s load).1 < (fuelS l (bestTo l load need s) load).1) then s else bestTo l load need s
theorem bestTo_spec (l : List Eng) (load need : Int) (h0 : carryS l 0 load need = false) : ∀ m, bestTo l load need m < max m 1 ∧ (bestTo l load need m ≠ 0 → carryS l (bestTo l load need m) load need = true) ∧
    ∀ s, s < m → carryS l s load need = true → bestTo l load need m ≠ 0 ∧ (fuelS l (bestTo l load need m) load).1 ≤ (fuelS l s load).1
  | 0 => ⟨by simp [bestTo], fun h => absurd rfl h, fun s h => by omega⟩
  | m + 1 => by
    obtain ⟨h1, h2, h3⟩ := bestTo_spec l load need h0 m
    unfold bestTo
    split
    · rename_i hc
      have hm0 : m ≠ 0 := fun e => by subst e; rw [h0] at hc; simp at hc
      refine ⟨by omega, fun _ => hc.1, fun s hs hsc => ⟨hm0, ?_⟩⟩
      by_cases e : s = m
      · subst e; omega
      · have := h3 s (by omega) hsc
        rcases hc.2 with h4 | h4
        · exact absurd h4 this.1
        · omega
    · rename_i hc
      refine ⟨by omega, h2, fun s hs hsc => ?_⟩
      by_cases e : s = m
      · subst e
        have hn : ¬ (bestTo l load need s = 0 ∨ (fuelS l s load).1 < (fuelS l (bestTo l load need s) load).1) := fun h => hc ⟨hsc, h⟩
        exact ⟨fun e0 => hn (.inl e0), by omega⟩
      · exact h3 s (by omega) hsc
end Go.Yd

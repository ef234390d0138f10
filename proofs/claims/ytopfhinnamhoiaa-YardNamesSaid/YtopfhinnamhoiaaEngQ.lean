/- The fuel of a set as the reference burns it, as plain data. -/
import Derived.Test.YtopfhinnamhoiaaEngD
namespace Go.Yd
open Go.Pl
/-- burning without what an engine costs at all -/
def burn0 (l : List Eng) (a : Int × Int) (i : Nat) : Int × Int := (a.1 + min a.2 (engs l i).most * (engs l i).per, a.2 - min a.2 (engs l i).most)
theorem burn_split (l : List Eng) : ∀ (R : List Nat) (x y : Int), R.foldl (burn l) (x, y) = ((R.foldl (burn0 l) (x, y)).1 + 1000 * isum (R.map fun i => (engs l i).idle), (R.foldl (burn0 l) (x, y)).2)
  | [], x, y => by simp [isum]
  | i :: R, x, y => by
    rw [List.foldl_cons, List.foldl_cons]
    have h1 : burn l (x, y) i = ((x + (1000 * (engs l i).idle + min y (engs l i).most * (engs l i).per)), y - min y (engs l i).most) := rfl
    have h2 : burn0 l (x, y) i = (x + min y (engs l i).most * (engs l i).per, y - min y (engs l i).most) := rfl
    rw [h1, h2, burn_split l R, List.map_cons]
    have key : ∀ (R : List Nat) (x y d : Int), R.foldl (burn0 l) (x + d, y) = ((R.foldl (burn0 l) (x, y)).1 + d, (R.foldl (burn0 l) (x, y)).2) := by
      intro R
      induction R with
      | nil => intro x y d; rfl
      | cons j R ih =>
        intro x y d
        rw [List.foldl_cons, List.foldl_cons]
        have h3 : burn0 l (x + d, y) j = ((x + min y (engs l j).most * (engs l j).per) + d, y - min y (engs l j).most) := by unfold burn0; simp only; congr 1; omega
        have h4 : burn0 l (x, y) j = (x + min y (engs l j).most * (engs l j).per, y - min y (engs l j).most) := rfl
        rw [h3, h4, ih]
    have e : x + (1000 * (engs l i).idle + min y (engs l i).most * (engs l i).per) = (x + min y (engs l i).most * (engs l i).per) + 1000 * (engs l i).idle := by omega
    rw [e, key]
    simp only [isum]
    congr 1
    omega
theorem burn0_done (l : List Eng) : ∀ (R : List Nat) (x : Int), (∀ i ∈ R, 0 ≤ (engs l i).most) → R.foldl (burn0 l) (x, 0) = (x, 0)
  | [], x, _ => rfl
  | i :: R, x, h => by
    have h0 := h i (by simp)
    rw [List.foldl_cons]
    have : burn0 l (x, 0) i = (x, 0) := by
      unfold burn0
      simp only
      rw [Int.min_eq_left h0]
      simp
    rw [this]
    exact burn0_done l R x (fun j hj => h j (by simp [hj]))
/-- what the reference has burnt when t engines are used: sum and load -/
def fuelT (l : List Eng) (s : Nat) (load : Int) (t : Nat) : Int × Int := ((rankS l s).take t).foldl (burn0 l) (1000 * idleS l s, load)
theorem idleS_rank (l : List Eng) (s : Nat) : isum ((rankS l s).map fun i => (engs l i).idle) = idleS l s := isum_perm ((rankS_perm l s).map _)
theorem fuelT_all (l : List Eng) (s : Nat) (load : Int) : ((rankS l s).foldl (burn0 l) (1000 * idleS l s, load)).1 = (fuelS l s load).1 := by
  unfold fuelS
  rw [burn_split, idleS_rank]
  have key : ∀ (R : List Nat) (x y d : Int), (R.foldl (burn0 l) (x + d, y)).1 = (R.foldl (burn0 l) (x, y)).1 + d := by
    intro R
    induction R with
    | nil => intro x y d; rfl
    | cons j R ih =>
      intro x y d
      rw [List.foldl_cons, List.foldl_cons]
      have h3 : burn0 l (x + d, y) j = ((x + min y (engs l j).most * (engs l j).per) + d, y - min y (engs l j).most) := by unfold burn0; simp only; congr 1; omega
      have h4 : burn0 l (x, y) j = (x + min y (engs l j).most * (engs l j).per, y - min y (engs l j).most) := rfl
      rw [h3, h4, ih]
  have := key (rankS l s) 0 load (1000 * idleS l s)
  rw [Int.zero_add] at this
  rw [this]
/-- the load is gone, or all are used -/
theorem fuelT_end {l : List Eng} (hok : engOk l) {s t : Nat} {load : Int} (h : (fuelT l s load t).2 = 0 ∨ (rankS l s).length ≤ t) : (fuelT l s load t).1 = (fuelS l s load).1 := by
  rw [← fuelT_all]
  rcases h with h | h
  · have e : (rankS l s).foldl (burn0 l) (1000 * idleS l s, load) = ((rankS l s).drop t).foldl (burn0 l) (fuelT l s load t) := by
      unfold fuelT
      rw [← List.foldl_append, List.take_append_drop]
    rw [e]
    have : fuelT l s load t = ((fuelT l s load t).1, 0) := by rw [← h]
    rw [this, burn0_done l _ _ (fun i hi => (engs_ok hok (rankS_mem.1 (List.mem_of_mem_drop hi)).1).1.1)]
  · unfold fuelT
    rw [List.take_of_length_le h]
theorem fuelT_bd {l : List Eng} (hok : engOk l) (s : Nat) {load : Int} (hl : 0 ≤ load ∧ load ≤ 10000000) : ∀ t, t ≤ 6 → 0 ≤ (fuelT l s load t).1 ∧ (fuelT l s load t).1 ≤ 600000000 + t * 100000000000 ∧ 0 ≤ (fuelT l s load t).2 ∧ (fuelT l s load t).2 ≤ 10000000
  | 0, _ => by
    have h := isum_map_bd (fun i => (engs l i).idle) (setN l.length s) 100000 (fun i hi => (engs_ok hok (mem_setN.1 hi).1).2.1)
    have h2 : (setN l.length s).length ≤ l.length := by have := List.length_filter_le (fun i => s.testBit i) (List.range l.length); simpa [setN] using this
    have h3 := hok.1
    show 0 ≤ 1000 * idleS l s ∧ 1000 * idleS l s ≤ _ ∧ 0 ≤ load ∧ load ≤ _
    unfold idleS
    omega
  | t + 1, ht => by
    have ih := fuelT_bd hok s hl t (by omega)
    by_cases hlt : t < (rankS l s).length
    · have e : fuelT l s load (t + 1) = burn0 l (fuelT l s load t) (rankS l s)[t] := by
        unfold fuelT
        rw [List.take_succ_eq_append_getElem hlt, List.foldl_append]; rfl
      have hi := engs_ok hok (rankS_mem.1 (List.getElem_mem hlt)).1
      have hm := mul_bd (a := min (fuelT l s load t).2 (engs l (rankS l s)[t]).most) (b := (engs l (rankS l s)[t]).per) (m := 10000000) (n := 10000) (by have := hi.1.1; omega) (by omega) hi.2.2.1 hi.2.2.2
      have hx := hi.1
      rw [e]
      unfold burn0
      simp only
      have hx2 : ((t + 1 : Nat) : Int) * 100000000000 = t * 100000000000 + 100000000000 := by rw [Int.natCast_add, Int.add_mul]; simp
      omega
    · have e : fuelT l s load (t + 1) = fuelT l s load t := by unfold fuelT; rw [List.take_of_length_le (by omega), List.take_of_length_le (by omega)]
      rw [e]
      have hx2 : ((t + 1 : Nat) : Int) * 100000000000 = t * 100000000000 + 100000000000 := by rw [Int.natCast_add, Int.add_mul]; simp
      omega
theorem fuelT_succ {l : List Eng} {s t : Nat} {load : Int} (ht : t < (rankS l s).length) : fuelT l s load (t + 1) = burn0 l (fuelT l s load t) (rankS l s)[t] := by
  unfold fuelT
  rw [List.take_succ_eq_append_getElem ht, List.foldl_append]; rfl
/-- the order of the ranks -/
theorem rankS_sorted (l : List Eng) (s : Nat) : (rankS l s).Pairwise (fun a b => (engs l a).per < (engs l b).per ∨ ((engs l a).per = (engs l b).per ∧ a < b)) := by
  unfold rankS
  refine List.Pairwise.filter _ ?_
  rw [List.pairwise_map]
  have h := (rank_spec (fun i => (engs l i.toNat).per) l.length)
  refine List.Pairwise.imp_of_mem ?_ h.2
  intro a b ha hb hab
  have h1 := mem_upto.1 (h.1.mem_iff.1 ha)
  have h2 := mem_upto.1 (h.1.mem_iff.1 hb)
  rcases hab with h | ⟨h, h3⟩
  · exact .inl h
  · exact .inr ⟨h, by omega⟩
theorem rankS_nodup (l : List Eng) (s : Nat) : (rankS l s).Nodup := (rankS_sorted l s).imp (fun {a b} h => by rintro rfl; omega)
theorem setN_sorted (n s : Nat) : (setN n s).Pairwise (· < ·) := List.Pairwise.filter _ List.pairwise_lt_range
/-- the least of those that are left is the next by rank -/
theorem next_rank {l : List Eng} {s t : Nat} {x : Nat} (hx : x ∈ setN l.length s) (hu : x ∉ (rankS l s).take t)
    (hle : ∀ y ∈ setN l.length s, y ∉ (rankS l s).take t → (engs l x).per < (engs l y).per ∨ ((engs l x).per = (engs l y).per ∧ x ≤ y)) : ∃ h : t < (rankS l s).length, (rankS l s)[t] = x := by
  have hxr : x ∈ rankS l s := (rankS_perm l s).mem_iff.2 hx
  rw [← List.take_append_drop t (rankS l s)] at hxr
  rcases List.mem_append.1 hxr with h | h
  · exact absurd h hu
  · have ht : t < (rankS l s).length := by
      rcases Nat.lt_or_ge t (rankS l s).length with h2 | h2
      · exact h2
      · rw [List.drop_eq_nil_of_le h2] at h; cases h
    refine ⟨ht, ?_⟩
    have hnd := rankS_nodup l s
    have hz : (rankS l s)[t] ∉ (rankS l s).take t := by
      intro hm
      obtain ⟨j, hj, e⟩ := List.mem_take_iff_getElem.1 hm
      have := (List.getElem_inj hnd).1 e
      omega
    have h3 := hle _ ((rankS_perm l s).mem_iff.1 (List.getElem_mem ht)) hz
    rw [List.drop_eq_getElem_cons ht] at h
    rcases List.mem_cons.1 h with h | h
    · exact h.symm
    · have hs := rankS_sorted l s
      rw [← List.take_append_drop t (rankS l s), List.drop_eq_getElem_cons ht] at hs
      have h4 := (List.pairwise_cons.1 (List.pairwise_append.1 hs).2.1).1 x h
      omega
theorem take_full {l : List Eng} {s t : Nat} (h : ∀ y ∈ setN l.length s, y ∈ (rankS l s).take t) : (rankS l s).length ≤ t := by
  rcases Nat.lt_or_ge t (rankS l s).length with h2 | h2
  · exfalso
    have hnd := rankS_nodup l s
    have h3 := h _ ((rankS_perm l s).mem_iff.1 (List.getElem_mem h2))
    obtain ⟨j, hj, e⟩ := List.mem_take_iff_getElem.1 h3
    have := (List.getElem_inj hnd).1 e
    omega
  · exact h2
end Go.Yd

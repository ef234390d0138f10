/- Orders: what a sorted list says. -/
import Derived.Test.YtcnidhcdkbfpcaaSortP
import Derived.Test.YtcnidhcdkbfpcaaPrgR
namespace Go.Pl
theorem insR_falls (x : Int) : ∀ T : List Int, T.Pairwise (fun a b => b ≤ a) → (insR (fun s => decide (x - s < 0)) x T).Pairwise (fun a b => b ≤ a)
  | [], _ => by simp [insR]
  | s :: t, h => by
    have h1 := List.pairwise_cons.1 h
    unfold insR
    by_cases hp : x - s < 0
    · rw [if_pos (by simpa using hp)]
      refine List.pairwise_cons.2 ⟨fun y hy => ?_, insR_falls x t h1.2⟩
      rcases List.mem_cons.1 ((insR_perm _ x t).mem_iff.1 hy) with rfl | hy
      · omega
      · exact h1.1 y hy
    · rw [if_neg (by simpa using hp)]
      refine List.pairwise_cons.2 ⟨fun y hy => ?_, h⟩
      rcases List.mem_cons.1 hy with rfl | hy
      · omega
      · have := h1.1 y hy; omega
theorem sortL_sorted (l : List Int) : (sortL (fun a b => a - b) l).Pairwise (fun a b => a ≤ b) := by
  have : ∀ (l S : List Int), S.Pairwise (fun a b => a ≤ b) → (l.foldl (ins1 (fun a b => a - b)) S).Pairwise (fun a b => a ≤ b) := by
    intro l
    induction l with
    | nil => intro S h; exact h
    | cons x l ih =>
      intro S h
      rw [List.foldl_cons]
      refine ih _ ?_
      unfold ins1
      rw [List.pairwise_reverse]
      exact insR_falls x _ (by rw [List.pairwise_reverse]; exact h)
  exact this l [] List.Pairwise.nil
theorem upto_sorted (n : Nat) : (upto n).Pairwise (fun a b => a < b) := by
  induction n with
  | zero => exact List.Pairwise.nil
  | succ n ih =>
    rw [upto_succ, List.pairwise_append]
    refine ⟨ih, by simp, fun a ha b hb => ?_⟩
    simp at hb
    have := mem_upto.1 ha
    omega
theorem upto_nodup (n : Nat) : (upto n).Nodup := (upto_sorted n).imp (fun {a b} h => by omega)
theorem ord_perm {l : List Int} {n : Nat} (h1 : l.length = n) (h2 : ∀ x ∈ l, 0 ≤ x ∧ x < n) (h3 : l.Nodup) : l.Perm (upto n) := by
  rw [List.perm_iff_count]
  intro a
  by_cases ha : a ∈ l
  · rw [h3.count, (upto_nodup n).count, if_pos ha, if_pos (mem_upto.2 (h2 a ha))]
  · have hu : a ∉ upto n := fun hu => by
      have hs : l ⊆ (upto n).erase a := fun x hx => by
        have hne : x ≠ a := fun e => ha (e ▸ hx)
        exact (List.mem_erase_of_ne hne).2 (mem_upto.2 (h2 x hx))
      have := h3.length_le_of_subset hs
      rw [List.length_erase_of_mem hu, upto_len] at this
      have hn := (mem_upto.1 hu)
      omega
    rw [List.count_eq_zero_of_not_mem ha, List.count_eq_zero_of_not_mem hu]
theorem upto_get {n i : Nat} (h : i < n) : (upto n)[i]? = some (i : Int) := by simp [upto, h]
end Go.Pl
namespace Go.Pg
open Go.Pl
/-- is a list of numbers an order of n acts? -/
def ordB (n : Nat) (l : List Int) : Bool := decide (l.length = n ∧ (∀ x ∈ l, 0 ≤ x ∧ x < n) ∧ l.Nodup)
theorem ord_iff {n : Nat} {l : List Int} : ordB n l = true ↔ l.length = n ∧ (∀ x ∈ l, 0 ≤ x ∧ x < n) ∧ l.Nodup := by unfold ordB; rw [decide_eq_true_iff]
/-- what the program asks of the sorted list -/
theorem ord_sorted (n : Nat) (l : List Int) : ordB n l = true ↔ sortL (fun a b => a - b) l = upto l.length ∧ l.length = n := by
  rw [ord_iff]
  constructor
  · rintro ⟨h1, h2, h3⟩
    refine ⟨?_, h1⟩
    rw [h1]
    refine List.Perm.eq_of_pairwise (le := fun a b => a ≤ b) (fun a b _ _ h h' => by omega) (sortL_sorted l) ((upto_sorted n).imp (fun {a b} h => by omega)) ((sortL_perm _ l).trans (ord_perm h1 h2 h3))
  · rintro ⟨h1, h2⟩
    have hp : l.Perm (upto l.length) := by rw [← h1]; exact (sortL_perm _ l).symm
    refine ⟨h2, fun x hx => ?_, hp.nodup_iff.2 (upto_nodup _)⟩
    have := mem_upto.1 (hp.mem_iff.1 hx)
    omega
/-- numbers as ints -/
def toI (k : List Nat) : List Int := k.map fun (i : Nat) => (i : Int)
theorem toI_len (k : List Nat) : (toI k).length = k.length := List.length_map _
theorem toI_get {k : List Nat} {i : Nat} (h : i < k.length) : (toI k)[i]'(by rw [toI_len]; exact h) = (k[i] : Int) := by simp [toI]
theorem ord_nat {n : Nat} {l : List Int} (h : ordB n l = true) : ∃ k : List Nat, l = toI k ∧ k.length = n ∧ (∀ i ∈ k, i < n) ∧ k.Nodup := by
  obtain ⟨h1, h2, h3⟩ := ord_iff.1 h
  have e : l = toI (l.map Int.toNat) := by
    unfold toI
    rw [List.map_map]
    refine (List.map_id' l).symm.trans (List.map_congr_left fun x hx => ?_)
    have := h2 x hx
    simp only [Function.comp]
    omega
  refine ⟨l.map Int.toNat, e, by simp [h1], fun i hi => ?_, ?_⟩
  · obtain ⟨x, hx, rfl⟩ := List.mem_map.1 hi
    have := h2 x hx
    omega
  · rw [e] at h3
    unfold toI at h3
    rw [List.nodup_iff_pairwise_ne, List.pairwise_map] at h3
    rw [List.nodup_iff_pairwise_ne]
    exact h3.imp (fun {a b} hab e => hab (by rw [e]))
theorem ord_toI {n : Nat} {k : List Nat} (h1 : k.length = n) (h2 : ∀ i ∈ k, i < n) (h3 : k.Nodup) : ordB n (toI k) = true := by
  refine ord_iff.2 ⟨by rw [toI_len, h1], fun x hx => ?_, ?_⟩
  · obtain ⟨i, hi, rfl⟩ := List.mem_map.1 hx
    have := h2 i hi
    omega
  · unfold toI
    rw [List.nodup_iff_pairwise_ne, List.pairwise_map]
    exact (List.nodup_iff_pairwise_ne.1 h3).imp (fun {a b} hab e => hab (by omega))
theorem isOrd_iff {s : Sh} {k : List Nat} : s.isOrd k = true ↔ k.length = s.acts.length ∧ (∀ c ∈ k, c < s.acts.length) ∧ k.Nodup := by unfold Sh.isOrd; rw [decide_eq_true_iff]
end Go.Pg

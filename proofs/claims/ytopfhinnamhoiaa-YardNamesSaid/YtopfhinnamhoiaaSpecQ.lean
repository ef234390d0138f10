/- Plans of a road by the reference's words, as plain data. -/
import Derived.Test.YtopfhinnamhoiaaFedA
namespace Go.Proofs.Ytopfhinnamhoiaa
open Go.RowKit Go.Yd Go.Pl Go.Sort Go.Bs

structure PlanPre (r : Rd) (l : List Int) : Prop where
  rng : ∀ i (h : i < l.length), 0 ≤ l[i] ∧ l[i] < r.days.length
  opn : ∀ i (h : i < l.length), (r.day (l[i]).toNat).opn = true
  inc : ∀ i (h : i + 1 < l.length), l[i] < l[i + 1]
section
variable {r : Rd} {l : List Int}
theorem PlanOk.pre (h : PlanOk r l) : PlanPre r l := ⟨h.rng, h.opn, h.inc⟩
theorem PlanPre.q_lt (h : PlanPre r l) {i : Nat} (hi : i < l.length) : qd r l i < r.days.length := by
  have := h.rng i hi
  rw [qd_at hi]; omega
theorem PlanPre.q_le (h : PlanPre r l) (i : Nat) : qd r l i ≤ r.days.length := by
  by_cases hi : i < l.length
  · exact Nat.le_of_lt (h.q_lt hi)
  · rw [qd_end (by omega)]; exact Nat.le_refl _
theorem PlanPre.q_inc (h : PlanPre r l) {i : Nat} (hi : i < l.length) : qd r l i < qd r l (i + 1) := by
  by_cases h1 : i + 1 < l.length
  · have := h.inc i h1
    have := h.rng i hi
    rw [qd_at hi, qd_at h1]; omega
  · rw [qd_end (i := i + 1) (by omega)]
    exact h.q_lt hi
theorem PlanPre.q_mono (h : PlanPre r l) : ∀ (k i : Nat), i + k ≤ l.length → qd r l i ≤ qd r l (i + k)
  | 0, _, _ => Nat.le_refl _
  | k + 1, i, hk => by
    have h1 := h.q_mono k i (by omega)
    have h2 := h.q_inc (i := i + k) (by omega)
    rw [show i + (k + 1) = i + k + 1 by omega]; omega
theorem PlanPre.q_uniq (h : PlanPre r l) {i j t : Nat} (hi : i ≤ l.length) (hj : j ≤ l.length) (h1 : 0 < i → qd r l (i - 1) ≤ t) (h2 : t < qd r l i) (h3 : 0 < j → qd r l (j - 1) ≤ t) (h4 : t < qd r l j) : i = j := by
  rcases Nat.lt_trichotomy i j with h5 | h5 | h5
  · have h6 := h.q_mono (j - 1 - i) i (by omega)
    rw [show i + (j - 1 - i) = j - 1 by omega] at h6
    have := h3 (by omega)
    omega
  · exact h5
  · have h6 := h.q_mono (i - 1 - j) j (by omega)
    rw [show j + (i - 1 - j) = i - 1 by omega] at h6
    have := h1 (by omega)
    omega
/-- day t's purchase -/
def Eaten (r : Rd) (l : List Int) (t : Nat) : Prop := ∃ k, 0 < k ∧ k ≤ l.length ∧ qd r l (k - 1) ≤ t ∧ t < qd r l k ∧ (t : Int) < qd r l (k - 1) + r.keep
theorem PlanPre.ok (h : PlanPre r l) (hok : r.ok) (hall : ∀ t, t < r.days.length → 0 < (r.day t).need → Eaten r l t) : PlanOk r l := by
  have hnn : ∀ t, t < r.days.length → ¬ 0 < (r.day t).need → (r.day t).need = 0 := fun t ht h0 => by
    have := (Rd.day_ok hok ht).1; omega
  have hk := hok.2.1
  refine ⟨h.rng, h.opn, h.inc, fun i hi => ?_, ?_⟩
  · unfold Rd.feeds
    have h1 := h.q_inc hi
    have h2 := h.q_le (i + 1)
    have hz := r.need_zero (qd r l (i + 1) - min (qd r l (i + 1)) (qd r l i + r.keep.toNat)) (min (qd r l (i + 1)) (qd r l i + r.keep.toNat)) (by omega) (fun t h3 h4 => hnn t (by omega) (fun h5 => by
      obtain ⟨k, k0, k1, k2, k3, k4⟩ := hall t (by omega) h5
      have := h.q_uniq (i := i + 1) (j := k) (t := t) (by omega) k1 (fun _ => by rw [Nat.add_sub_cancel]; omega) (by omega) (fun _ => k2) k3
      subst this
      rw [Nat.add_sub_cancel] at k4
      omega))
    rw [show min (qd r l (i + 1)) (qd r l i + r.keep.toNat) + (qd r l (i + 1) - min (qd r l (i + 1)) (qd r l i + r.keep.toNat)) = qd r l (i + 1) by omega] at hz
    rw [hz]; rfl
  · have h2 := h.q_le 0
    have hz := r.need_zero (qd r l 0) 0 (by omega) (fun t h3 h4 => hnn t (by omega) (fun h5 => by
      obtain ⟨k, k0, k1, k2, k3, k4⟩ := hall t (by omega) h5
      have := h.q_uniq (i := 0) (j := k) (t := t) (by omega) k1 (fun h => by omega) (by omega) (fun _ => k2) k3
      omega))
    simpa using hz
theorem PlanOk.eaten (h : PlanOk r l) (hok : r.ok) {t k : Nat} (hn : 0 < (r.day t).need) (hk : k ≤ l.length) (h1 : 0 < k → qd r l (k - 1) ≤ t) (h2 : t < qd r l k) : 0 < k ∧ (t : Int) < qd r l (k - 1) + r.keep := by
  have hk0 : 0 < k := by
    by_cases h0 : 0 < k
    · exact h0
    · obtain rfl : k = 0 := by omega
      have := h.before hok h2
      omega
  refine ⟨hk0, ?_⟩
  have := h.feed hok (i := k - 1) (t := t) (by omega) (by rw [show k - 1 + 1 = k by omega]; exact h2) hn
  omega
end
end Go.Proofs.Ytopfhinnamhoiaa

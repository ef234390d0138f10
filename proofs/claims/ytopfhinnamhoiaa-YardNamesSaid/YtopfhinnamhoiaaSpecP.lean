/- Plans of a road, as plain data. -/
import Derived.Test.YtopfhinnamhoiaaYardW
namespace Go.Proofs.Ytopfhinnamhoiaa
open Go.RowKit Go.Yd Go.Pl Go.Sort Go.Bs

/-- the day of purchase i; behind the last one: the road's end -/
def qd (r : Rd) (l : List Int) (i : Nat) : Nat := if i < l.length then (l.getD i 0).toNat else r.days.length
structure PlanOk (r : Rd) (l : List Int) : Prop where
  rng : ∀ i (h : i < l.length), 0 ≤ l[i] ∧ l[i] < r.days.length
  opn : ∀ i (h : i < l.length), (r.day (l[i]).toNat).opn = true
  inc : ∀ i (h : i + 1 < l.length), l[i] < l[i + 1]
  fd : ∀ i, i < l.length → r.feeds (qd r l i) (qd r l (i + 1)) = true
  st : r.need 0 (qd r l 0) = 0
/-- the cost of the first k purchases -/
def spN (r : Rd) (l : List Int) : Nat → Int
  | 0 => 0
  | k + 1 => spN r l k + r.price (qd r l k) (qd r l (k + 1))
section
variable {r : Rd} {l : List Int}
theorem qd_at {i : Nat} (h : i < l.length) : qd r l i = (l[i]).toNat := by simp [qd, h]
theorem qd_end {i : Nat} (h : l.length ≤ i) : qd r l i = r.days.length := by unfold qd; rw [if_neg (by omega)]
theorem PlanOk.q_lt (h : PlanOk r l) {i : Nat} (hi : i < l.length) : qd r l i < r.days.length := by
  have := h.rng i hi
  rw [qd_at hi]; omega
theorem PlanOk.q_inc (h : PlanOk r l) {i : Nat} (hi : i < l.length) : qd r l i < qd r l (i + 1) := by
  by_cases h1 : i + 1 < l.length
  · have := h.inc i h1
    have := h.rng i hi
    rw [qd_at hi, qd_at h1]; omega
  · rw [qd_end (i := i + 1) (by omega)]
    exact h.q_lt hi
theorem need_append (r : Rd) {a b c : Nat} (h1 : a ≤ b) (h2 : b ≤ c) : r.need a c = r.need a b + r.need b c := by
  unfold Rd.need
  rw [show c - a = (b - a) + (c - b) by omega, List.take_add, List.map_append, isum_append]
  rw [List.drop_drop, show a + (b - a) = b by omega]
theorem need_succ (r : Rd) {a b : Nat} (h1 : a ≤ b) (h2 : b < r.days.length) : r.need a (b + 1) = r.need a b + (r.day b).need := by
  rw [need_append r h1 (Nat.le_succ b), r.need_day (Nat.lt_succ_self b) h2]
  have h3 : r.need (b + 1) b.succ = 0 := by unfold Rd.need; simp [isum]
  omega
theorem need_self (r : Rd) (a : Nat) : r.need a a = 0 := by unfold Rd.need; simp [isum]
theorem need_in {r : Rd} (hok : r.ok) {a b t : Nat} (h : r.need a b = 0) (h1 : a ≤ t) (h2 : t < b) (h3 : b ≤ r.days.length) : (r.day t).need = 0 := by
  have e1 := need_append r h1 (Nat.le_of_lt h2)
  have e2 := r.need_day h2 h3
  have := r.need_bd hok a t
  have := r.need_bd hok (t + 1) b
  have := (Rd.day_ok hok (i := t) (by omega)).1
  omega
theorem PlanOk.feed (h : PlanOk r l) (hok : r.ok) {i t : Nat} (hi : i < l.length) (h2 : t < qd r l (i + 1)) (hn : 0 < (r.day t).need) : (t : Int) - (qd r l i : Int) < r.keep := by
  have hf := h.fd i hi
  have hq : qd r l (i + 1) ≤ r.days.length := by
    by_cases h3 : i + 1 < l.length
    · exact Nat.le_of_lt (h.q_lt h3)
    · rw [qd_end (by omega)]; exact Nat.le_refl _
  unfold Rd.feeds at hf
  have hf := eq_of_beq hf
  have hk := hok.2.1
  have hmin : ¬ (min (qd r l (i + 1)) (qd r l i + r.keep.toNat) ≤ t) := fun hle => by
    have := need_in hok hf hle h2 hq
    omega
  omega
theorem PlanOk.before (h : PlanOk r l) (hok : r.ok) {t : Nat} (h1 : t < qd r l 0) : (r.day t).need = 0 := by
  have hq : qd r l 0 ≤ r.days.length := by
    by_cases h3 : 0 < l.length
    · exact Nat.le_of_lt (h.q_lt h3)
    · rw [qd_end (by omega)]; exact Nat.le_refl _
  exact need_in hok h.st (Nat.zero_le t) h1 hq
theorem PlanOk.len (h : PlanOk r l) : l.length ≤ r.days.length := by
  have key : ∀ i, i < l.length → i ≤ qd r l i := by
    intro i
    induction i with
    | zero => intro _; omega
    | succ i ih => intro hi; have := ih (by omega); have := h.q_inc (i := i) (by omega); omega
  by_cases h0 : l.length = 0
  · omega
  · have := key (l.length - 1) (by omega)
    have := h.q_lt (i := l.length - 1) (by omega)
    omega
theorem PlanOk.spN_bd (h : PlanOk r l) (hok : r.ok) : ∀ k, k ≤ l.length → 0 ≤ spN r l k ∧ spN r l k ≤ k * 300100000
  | 0, _ => by simp [spN]
  | k + 1, hk => by
    have ih := h.spN_bd hok k (by omega)
    have := Rd.price_nonneg hok (h.q_lt (i := k) (by omega)) (qd r l (k + 1))
    have hx : ((k + 1 : Nat) : Int) * 300100000 = k * 300100000 + 300100000 := by rw [Int.natCast_add, Int.add_mul]; simp
    unfold spN
    rw [hx]
    omega
/-- what the first t days cost, when k purchases lie ahead of day t -/
def dayCost (r : Rd) (l : List Int) (t k : Nat) : Int := if k = 0 then 0 else spN r l (k - 1) + ((r.day (qd r l (k - 1))).trip + (r.day (qd r l (k - 1))).price * r.need (qd r l (k - 1)) t)
theorem dayCost_buy {t k : Nat} (ht : qd r l k = t) : dayCost r l t (k + 1) = dayCost r l t k + (r.day t).trip := by
  unfold dayCost
  rw [if_neg (Nat.succ_ne_zero k), Nat.add_sub_cancel, ht, need_self]
  by_cases h0 : k = 0
  · subst h0; rw [if_pos rfl]; simp [spN]
  · rw [if_neg h0]
    obtain ⟨j, rfl⟩ : ∃ j, k = j + 1 := ⟨k - 1, by omega⟩
    rw [Nat.add_sub_cancel]
    have : spN r l (j + 1) = spN r l j + r.price (qd r l j) (qd r l (j + 1)) := rfl
    rw [this, ht]
    unfold Rd.price
    simp
theorem dayCost_eat {t k : Nat} (hk : 0 < k) (h1 : qd r l (k - 1) ≤ t) (h2 : t < r.days.length) : dayCost r l (t + 1) k = dayCost r l t k + (r.day t).need * (r.day (qd r l (k - 1))).price := by
  unfold dayCost
  rw [if_neg (by omega), if_neg (by omega), need_succ r h1 h2, Int.mul_add, Int.mul_comm (r.day t).need]
  omega
theorem dayCost_end (r : Rd) (l : List Int) : dayCost r l r.days.length l.length = spN r l l.length := by
  unfold dayCost
  by_cases h0 : l.length = 0
  · rw [if_pos h0, h0]; rfl
  · rw [if_neg h0]
    obtain ⟨j, hj⟩ : ∃ j, l.length = j + 1 := ⟨l.length - 1, by omega⟩
    rw [hj, Nat.add_sub_cancel]
    have : spN r l (j + 1) = spN r l j + r.price (qd r l j) (qd r l (j + 1)) := rfl
    rw [this, qd_end (i := j + 1) (by omega)]
    unfold Rd.price
    rfl
end
end Go.Proofs.Ytopfhinnamhoiaa

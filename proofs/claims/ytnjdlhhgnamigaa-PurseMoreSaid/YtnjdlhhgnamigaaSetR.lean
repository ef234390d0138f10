/- Weeks: the reference's order is the program's. -/
import Derived.Test.YtnjdlhhgnamigaaSetQ
namespace Go.Pu
open Go.Pl

theorem eq_of_sorted {R : Int → Int → Prop} (ha : ∀ a b, R a b → ¬ R b a) : ∀ (l1 l2 : List Int), l1.Pairwise R → l2.Pairwise R → (∀ x, x ∈ l1 ↔ x ∈ l2) → l1 = l2
  | [], [], _, _, _ => rfl
  | [], b :: l2, _, _, h => by have := (h b).2 (by simp); simp at this
  | a :: l1, [], _, _, h => by have := (h a).1 (by simp); simp at this
  | a :: l1, b :: l2, h1, h2, h => by
    have p1 := List.pairwise_cons.1 h1
    have p2 := List.pairwise_cons.1 h2
    have hab : a = b := by
      apply Decidable.byContradiction
      intro hne
      have m1 : a ∈ l2 := by have := (h a).1 (by simp); simp [hne] at this; exact this
      have m2 : b ∈ l1 := by have := (h b).2 (by simp); simp [Ne.symm hne] at this; exact this
      exact ha _ _ (p1.1 b m2) (p2.1 a m1)
    subst hab
    rw [eq_of_sorted ha l1 l2 p1.2 p2.2 (fun x => ?_)]
    constructor
    · intro hx
      have := (h x).1 (by simp [hx])
      rcases List.mem_cons.1 this with e | hy
      · subst e; exact absurd (p1.1 x hx) (fun hr => ha _ _ hr hr)
      · exact hy
    · intro hx
      have := (h x).2 (by simp [hx])
      rcases List.mem_cons.1 this with e | hy
      · subst e; exact absurd (p2.1 x hx) (fun hr => ha _ _ hr hr)
      · exact hy
/-- those of the first ranks -/
def rfL (key : Int → Int) (n : Nat) : Nat → List Int
  | 0 => []
  | c + 1 => rfL key n c ++ (upto n).filter fun i => decide (key i = c)
theorem mem_rfL {key : Int → Int} {n : Nat} {x : Int} : ∀ c, x ∈ rfL key n c ↔ (0 ≤ x ∧ x < n) ∧ 0 ≤ key x ∧ key x < c
  | 0 => by simp [rfL]
  | c + 1 => by
    unfold rfL
    rw [List.mem_append, mem_rfL c, List.mem_filter, mem_upto, decide_eq_true_eq]
    omega
theorem upto_sorted : ∀ n, (upto n).Pairwise (fun a b => a < b)
  | 0 => by simp [upto]
  | n + 1 => by
    rw [upto_succ, List.pairwise_append]
    refine ⟨upto_sorted n, by simp, fun a ha b hb => ?_⟩
    simp at hb; subst hb
    exact (mem_upto.1 ha).2
theorem rfL_sorted (key : Int → Int) (n : Nat) : ∀ c, (rfL key n c).Pairwise (Before key)
  | 0 => by simp [rfL]
  | c + 1 => by
    unfold rfL
    rw [List.pairwise_append]
    refine ⟨rfL_sorted key n c, ?_, fun a ha b hb => ?_⟩
    · have h := (upto_sorted n).filter (fun i => decide (key i = c))
      refine h.imp_of_mem (fun {a b} ha hb hab => ?_)
      have h1 := (List.mem_filter.1 ha).2
      have h2 := (List.mem_filter.1 hb).2
      simp at h1 h2
      exact .inr ⟨by omega, hab⟩
    · have h1 := (mem_rfL c).1 ha
      have h2 := (List.mem_filter.1 hb).2
      simp at h2
      exact .inl (by omega)
theorem rfL_eq {key : Int → Int} {n : Nat} (h : ∀ x : Int, 0 ≤ x → x < n → 0 ≤ key x ∧ key x ≤ 100) : rfL key n 101 = rankL key n := by
  refine eq_of_sorted (R := Before key) (fun a b h1 h2 => by unfold Before at h1 h2; omega) _ _ (rfL_sorted key n 101) (rank_spec key n).2 (fun x => ?_)
  rw [mem_rfL, rank_mem]
  constructor
  · exact fun h1 => h1.1
  · exact fun h1 => ⟨h1, by have := h x h1.1 h1.2; omega⟩
end Go.Pu
namespace Go.Pu
open Go.Pl
/-- paid in an order -/
def Wk.payL (w : Wk) (l : List Int) : Int × (Nat → Int) := (l.map Int.toNat).foldl (payOne w) (w.pot - w.prem, fun _ => 0)
def Wk.key (w : Wk) (x : Int) : Int := (ctr w x.toNat).rank
theorem Wk.payL_snoc (w : Wk) (l : List Int) (x : Int) : w.payL (l ++ [x]) = payOne w (w.payL l) x.toNat := by
  unfold Wk.payL
  rw [List.map_append, List.foldl_append]
  rfl
theorem Wk.payL_all (w : Wk) : w.payL (rankL w.key w.ctrs.length) = w.paidTo w.ctrs.length := by
  unfold Wk.payL Wk.paidTo
  rw [List.take_of_length_le (by rw [w.order_len]; exact Nat.le_refl _)]
  rfl
theorem Wk.ok.payL_bd {w : Wk} (h : w.ok) : ∀ (l : List Int), (∀ x ∈ l, 0 ≤ x ∧ x < w.ctrs.length) → (0 ≤ (w.payL l).1 ∧ (w.payL l).1 ≤ 8000000000000000) ∧ ∀ i, 0 ≤ (w.payL l).2 i ∧ (w.payL l).2 i ≤ 1000000000000 := by
  have main : ∀ (l : List Int) (a : Int × (Nat → Int)), (∀ x ∈ l, 0 ≤ x ∧ x < w.ctrs.length) → ((0 ≤ a.1 ∧ a.1 ≤ 8000000000000000) ∧ ∀ i, 0 ≤ a.2 i ∧ a.2 i ≤ 1000000000000) →
      (0 ≤ ((l.map Int.toNat).foldl (payOne w) a).1 ∧ ((l.map Int.toNat).foldl (payOne w) a).1 ≤ 8000000000000000) ∧ ∀ i, 0 ≤ ((l.map Int.toNat).foldl (payOne w) a).2 i ∧ ((l.map Int.toNat).foldl (payOne w) a).2 i ≤ 1000000000000 := by
    intro l
    induction l with
    | nil => intro a _ h; exact h
    | cons x l ih =>
      intro a hl ha
      rw [List.map_cons, List.foldl_cons]
      refine ih _ (fun y hy => hl y (by simp [hy])) ?_
      have hx := hl x (by simp)
      have hw := (h.ctrs (i := x.toNat) (by omega)).wg
      unfold payOne
      refine ⟨by simp only; omega, fun i => ?_⟩
      simp only [upd]
      split
      · omega
      · exact ha.2 i
  intro l hl
  have := h.pot
  have := h.prem
  exact main l _ hl ⟨by simp only; omega, fun i => by simp⟩
/-- what is done when the rank is c and the contracts below i are through -/
def Wk.done (w : Wk) (n c i : Nat) : List Int := rfL w.key n c ++ (upto i).filter fun x => decide (w.key x = c)
theorem Wk.done_zero (w : Wk) (n c : Nat) : w.done n c 0 = rfL w.key n c := by simp [Wk.done, upto]
theorem Wk.done_next (w : Wk) (n c : Nat) : w.done n c n = w.done n (c + 1) 0 := by rw [w.done_zero]; rfl
theorem Wk.done_hit (w : Wk) (n c i : Nat) (h : (ctr w i).rank = c) : w.done n c (i + 1) = w.done n c i ++ [(i : Int)] := by
  unfold Wk.done
  rw [upto_succ, List.filter_append]
  have : w.key (i : Int) = c := by unfold Wk.key; simpa using h
  simp [this]
theorem Wk.done_miss (w : Wk) (n c i : Nat) (h : (ctr w i).rank ≠ c) : w.done n c (i + 1) = w.done n c i := by
  unfold Wk.done
  rw [upto_succ, List.filter_append]
  have : ¬ w.key (i : Int) = c := by unfold Wk.key; simpa using h
  simp [this]
theorem Wk.done_mem (w : Wk) (n c i : Nat) (hi : i ≤ n) : ∀ x ∈ w.done n c i, 0 ≤ x ∧ x < n := by
  intro x hx
  unfold Wk.done at hx
  rcases List.mem_append.1 hx with h | h
  · exact ((mem_rfL c).1 h).1
  · have := mem_upto.1 (List.mem_filter.1 h).1
    omega
end Go.Pu

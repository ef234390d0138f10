/- Sorting by insertion, as plain data; ranks. -/
import Derived.Test.YtilkoooahoecfaaGround
namespace Go.Pl
/-- x into a list that falls: behind all for which p holds -/
def insR (p : Int → Bool) (x : Int) : List Int → List Int
  | [] => [x]
  | s :: t => if p s then s :: insR p x t else x :: s :: t
def ins1 (cf : Int → Int → Int) (S : List Int) (x : Int) : List Int := (insR (fun s => decide (cf x s < 0)) x S.reverse).reverse
def sortL (cf : Int → Int → Int) (l : List Int) : List Int := l.foldl (ins1 cf) []
theorem insR_perm (p : Int → Bool) (x : Int) : ∀ l, (insR p x l).Perm (x :: l)
  | [] => List.Perm.refl _
  | s :: t => by
    unfold insR
    split
    · exact ((insR_perm p x t).cons s).trans (List.Perm.swap x s t)
    · exact List.Perm.refl _
theorem ins1_perm (cf : Int → Int → Int) (S : List Int) (x : Int) : (ins1 cf S x).Perm (x :: S) := by
  unfold ins1
  exact (List.reverse_perm _).trans ((insR_perm _ x _).trans ((List.reverse_perm S).cons x))
theorem sortL_snoc (cf : Int → Int → Int) (l : List Int) (x : Int) : sortL cf (l ++ [x]) = ins1 cf (sortL cf l) x := by
  unfold sortL; rw [List.foldl_append]; rfl
theorem sortL_perm (cf : Int → Int → Int) (l : List Int) : (sortL cf l).Perm l := by
  have : ∀ (l : List Int) (S : List Int), (l.foldl (ins1 cf) S).Perm (S ++ l) := by
    intro l
    induction l with
    | nil => intro S; simp
    | cons x l ih =>
      intro S
      rw [List.foldl_cons]
      refine (ih (ins1 cf S x)).trans ?_
      refine ((ins1_perm cf S x).append_right l).trans ?_
      rw [List.cons_append]
      exact (List.perm_middle (a := x) (l₁ := S) (l₂ := l)).symm
  simpa [sortL] using this l []
theorem sortL_len (cf : Int → Int → Int) (l : List Int) : (sortL cf l).length = l.length := (sortL_perm cf l).length_eq
theorem set_swap (T D : List Int) (s x : Int) : ((T ++ s :: x :: D).set (T.length + 1) s).set T.length x = T ++ x :: s :: D := by
  induction T with
  | nil => rfl
  | cons t T ih => simp

/-- before: a lesser key, or the same one and a lesser number -/
def Before (key : Int → Int) (a b : Int) : Prop := key a < key b ∨ (key a = key b ∧ a < b)
theorem insR_sorted (key : Int → Int) (x : Int) : ∀ T : List Int, T.Pairwise (fun a b => Before key b a) → (∀ s ∈ T, s < x) → (insR (fun s => decide (key x - key s < 0)) x T).Pairwise (fun a b => Before key b a)
  | [], _, _ => by simp [insR]
  | s :: t, h, hx => by
    have h1 := List.pairwise_cons.1 h
    unfold insR
    by_cases hp : key x - key s < 0
    · rw [if_pos (by simpa using hp)]
      refine List.pairwise_cons.2 ⟨fun y hy => ?_, insR_sorted key x t h1.2 (fun y hy => hx y (by simp [hy]))⟩
      rcases List.mem_cons.1 ((insR_perm _ x t).mem_iff.1 hy) with rfl | hy
      · exact .inl (by omega)
      · exact h1.1 y hy
    · rw [if_neg (by simpa using hp)]
      refine List.pairwise_cons.2 ⟨fun y hy => ?_, h⟩
      have hs := hx s (by simp)
      rcases List.mem_cons.1 hy with rfl | hy
      · unfold Before; omega
      · have h2 := h1.1 y hy
        have h3 := hx y (by simp [hy])
        unfold Before at h2 ⊢
        omega
def upto (n : Nat) : List Int := (List.range n).map Int.ofNat
theorem upto_succ (n : Nat) : upto (n + 1) = upto n ++ [(n : Int)] := by simp [upto, List.range_succ]
theorem upto_len (n : Nat) : (upto n).length = n := by simp [upto]
theorem mem_upto {n : Nat} {x : Int} : x ∈ upto n ↔ 0 ≤ x ∧ x < n := by
  unfold upto
  rw [List.mem_map]
  constructor
  · rintro ⟨i, hi, rfl⟩
    rw [List.mem_range] at hi
    exact ⟨Int.natCast_nonneg i, by show (i : Int) < n; omega⟩
  · rintro ⟨h1, h2⟩
    exact ⟨x.toNat, List.mem_range.2 (by omega), by show ((x.toNat : Nat) : Int) = x; omega⟩
/-- the numbers below n by a rising key; of several the first one -/
def rankL (key : Int → Int) (n : Nat) : List Int := sortL (fun a b => key a - key b) (upto n)
theorem rank_spec (key : Int → Int) : ∀ n, (rankL key n).Perm (upto n) ∧ (rankL key n).Pairwise (Before key)
  | 0 => ⟨List.Perm.refl _, List.Pairwise.nil⟩
  | n + 1 => by
    obtain ⟨h1, h2⟩ := rank_spec key n
    refine ⟨sortL_perm _ _, ?_⟩
    unfold rankL
    rw [upto_succ, sortL_snoc]
    unfold ins1
    rw [List.pairwise_reverse]
    refine insR_sorted key n _ (by rw [List.pairwise_reverse]; exact h2) (fun s hs => ?_)
    have := (h1.mem_iff (a := s)).1 (by simpa [rankL] using hs)
    exact (mem_upto.1 this).2
theorem rank_len (key : Int → Int) (n : Nat) : (rankL key n).length = n := by rw [(rank_spec key n).1.length_eq, upto_len]
theorem rank_mem {key : Int → Int} {n : Nat} {x : Int} : x ∈ rankL key n ↔ 0 ≤ x ∧ x < n := by rw [(rank_spec key n).1.mem_iff, mem_upto]
theorem rank_nodup (key : Int → Int) (n : Nat) : (rankL key n).Nodup := by
  refine (rank_spec key n).2.imp (fun {a b} h => ?_)
  intro e
  subst e
  unfold Before at h
  omega
end Go.Pl

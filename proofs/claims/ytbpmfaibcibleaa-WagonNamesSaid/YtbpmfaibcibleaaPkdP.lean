/- Plain: where the document puts a thing into a lane. -/
import Derived.Test.YtbpmfaibcibleaaRefP
import Derived.Test.YtbpmfaibcibleaaSeaE
namespace Go.Wg
open Go.RowKit Go.Bs Go.Pl
theorem insR_at (p : Int → Bool) (x : Int) : ∀ (B A : List Int), (∀ s ∈ B, p s = true) → (∀ s, A.head? = some s → p s = false) → insR p x (B ++ A) = B ++ x :: A
  | [], A, _, h => by
    cases A with
    | nil => rfl
    | cons a A =>
      have := h a rfl
      show (if p a then _ else _) = _
      rw [this]; rfl
  | b :: B, A, hB, h => by
    have hb := hB b (by simp)
    show (if p b then b :: insR p x (B ++ A) else _) = _
    rw [if_pos hb, insR_at p x B A (fun s hs => hB s (by simp [hs])) h]; rfl
/-- a thing behind what is needed not earlier -/
theorem ins1_at {ts : List Th} {S : List Int} {n : Int} {k : Nat} (hk : k ≤ S.length) (h1 : ∀ i, (hi : i < S.length) → k ≤ i → (thAt ts S[i]).need < (thAt ts n).need) (h2 : ∀ i, (hi : i < S.length) → i + 1 = k → (thAt ts n).need ≤ (thAt ts S[i]).need) : ins1 (needC ts) S n = S.take k ++ n :: S.drop k := by
  unfold ins1
  have e : S.reverse = (S.drop k).reverse ++ (S.take k).reverse := by rw [← List.reverse_append, List.take_append_drop]
  rw [e, insR_at]
  · simp
  · intro s hs
    rw [List.mem_reverse] at hs
    obtain ⟨i, hi, rfl⟩ := List.mem_iff_getElem.1 hs
    rw [List.length_drop] at hi
    have := h1 (k + i) (by omega) (by omega)
    rw [List.getElem_drop]
    exact decide_eq_true (by unfold needC; omega)
  · intro s hs
    rw [List.head?_reverse] at hs
    have hs2 : (S.take k).getLast? = some s := hs
    rcases k with _ | k
    · simp at hs2
    · have hkl : k < S.length := by omega
      rw [List.take_succ_eq_append_getElem hkl, List.getLast?_concat] at hs2
      cases hs2
      have := h2 k hkl rfl
      exact decide_eq_false (by unfold needC; omega)
theorem rcan_at {lanes : List Int} {ts : List Th} {ld : Bool} {n : Int} {now : List (List Int)} {i k : Nat} {S : List Int} (hS : now.getD i [] = S) (hk : k ≤ S.length) (h1 : ∀ i, (hi : i < S.length) → k ≤ i → (thAt ts S[i]).need < (thAt ts n).need) (h2 : ∀ i, (hi : i < S.length) → i + 1 = k → (thAt ts n).need ≤ (thAt ts S[i]).need) :
    rcan lanes ts ld n now i = (decide ((thAt ts n).long ≤ lanes.getD i 0 - longL ts S) && !(ld && decide (k < S.length))) := by
  unfold rcan
  rw [hS]
  congr 1
  cases ld with
  | false => rfl
  | true =>
    simp only [Bool.not_true, Bool.false_or, Bool.true_and]
    by_cases hlt : k < S.length
    · rw [decide_eq_true hlt]
      have hne : S.length - 1 < S.length := by omega
      have e : S.getLast? = some S[S.length - 1] := by rw [List.getLast?_eq_getElem?]; exact List.getElem?_eq_getElem hne
      rw [e]
      have := h1 (S.length - 1) hne (by omega)
      simp only [Option.all_some]
      rw [decide_eq_false (by omega)]; rfl
    · rw [decide_eq_false hlt]
      cases e : S.getLast? with
      | none => rfl
      | some s =>
        have hpos : 0 < S.length := by
          cases S with
          | nil => cases e
          | cons a b => simp
        have hne : S.length - 1 < S.length := by omega
        rw [List.getLast?_eq_getElem?, List.getElem?_eq_getElem hne] at e
        cases e
        have := h2 (S.length - 1) hne (by omega)
        simp only [Option.all_some]
        rw [decide_eq_true this]; rfl
/-- one lane after the other -/
def tryF (lanes : List Int) (ts : List Th) (ld : Bool) (n : Int) (r : List Int) (now : List (List Int)) (i : Nat) : Option (List (List Int)) :=
  if rcan lanes ts ld n now i then refp lanes ts ld r (now.set i (ins1 (needC ts) (now.getD i []) n)) else none
theorem refp_cons (lanes : List Int) (ts : List Th) (ld : Bool) (n : Int) (r : List Int) (now : List (List Int)) : refp lanes ts ld (n :: r) now = (List.range now.length).findSome? (tryF lanes ts ld n r now) := rfl
theorem find_succ {α : Type} (f : Nat → Option α) (z : Nat) (h : (List.range z).findSome? f = none) : (List.range (z + 1)).findSome? f = f z := by
  rw [List.range_succ, List.findSome?_append, h]
  simp
theorem find_more {α : Type} (f : Nat → Option α) {P : α} : ∀ {z n : Nat}, z ≤ n → (List.range z).findSome? f = some P → (List.range n).findSome? f = some P := by
  intro z n hz h
  obtain ⟨d, rfl⟩ : ∃ d, n = z + d := ⟨n - z, by omega⟩
  rw [List.range_add, List.findSome?_append, h]; rfl
end Go.Wg
namespace Go.Bs
open Go.RowKit
theorem OwnL.lower {α : Type} {w : World} {b0 base : Nat} {e : TypeId} {sz : Nat} {enc : α → List Value} {v : Value} {l : List α} (h : OwnL w base e sz enc v l) (hb : b0 ≤ base) : OwnL w b0 e sz enc v l := by
  refine ⟨h.1, ?_⟩
  rcases h.2 with h2 | ⟨g, cap, cur, hv, hbg, hr⟩
  · exact .inl h2
  · exact .inr ⟨g, cap, cur, hv, Nat.le_trans hb hbg, hr⟩
end Go.Bs

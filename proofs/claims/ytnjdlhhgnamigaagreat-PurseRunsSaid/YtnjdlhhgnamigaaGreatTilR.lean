/- Walk: the reference's test of a till; CheckTill; a till for the program. -/
import Derived.Test.YtnjdlhhgnamigaaGreatTilV
namespace Go.Pu
open Go.Pl
def Tl.qB (t : Tl) (i : Nat) : Bool := decide (1 ≤ t.vals.getD i 0 ∧ t.vals.getD i 0 ≤ 1000) && (!(decide (0 < i) && decide (t.vals.getD (i - 1) 0 ≤ t.vals.getD i 0)) && decide (0 ≤ t.cnts.getD i 0 ∧ t.cnts.getD i 0 ≤ 50))
theorem Tl.okB_q (t : Tl) : t.okB = (decide (1 ≤ (t.vals.length : Int) ∧ (t.vals.length : Int) ≤ 8) && (decide (t.cnts.length = t.vals.length) && (List.range t.vals.length).all t.qB)) := by
  rw [Bool.eq_iff_iff, Tl.okB_iff, Bool.and_eq_true, Bool.and_eq_true, decide_eq_true_eq, decide_eq_true_eq, List.all_eq_true]
  constructor
  · intro h
    refine ⟨by have := h.len; omega, h.eq, fun i hi => ?_⟩
    have hi' : i < t.vals.length := by simpa using hi
    have hi2 : i < t.cnts.length := by rw [h.eq]; exact hi'
    unfold Tl.qB
    rw [Bool.and_eq_true, Bool.and_eq_true, decide_eq_true_eq, decide_eq_true_eq]
    refine ⟨by simpa [hi'] using h.rng i hi', ?_, by simpa [hi2] using h.cnt _ (List.getElem_mem hi2)⟩
    by_cases h0 : 0 < i
    · obtain ⟨j, rfl⟩ : ∃ j, i = j + 1 := ⟨i - 1, by omega⟩
      have := h.fal j hi'
      simp [hi', show j < t.vals.length by omega]
      omega
    · simp [h0]
  · rintro ⟨h1, h2, h3⟩
    have hq : ∀ i (hi : i < t.vals.length), (1 ≤ t.vals[i] ∧ t.vals[i] ≤ 1000) ∧ (0 < i → t.vals[i] < t.vals.getD (i - 1) 0) ∧ (0 ≤ t.cnts.getD i 0 ∧ t.cnts.getD i 0 ≤ 50) := fun i hi => by
      have := h3 i (by simpa using hi)
      unfold Tl.qB at this
      rw [Bool.and_eq_true, Bool.and_eq_true, decide_eq_true_eq, decide_eq_true_eq] at this
      obtain ⟨a, b, c⟩ := this
      refine ⟨by simpa [hi] using a, fun h0 => ?_, c⟩
      simp [h0, hi] at b
      simpa using b
    refine ⟨by omega, h2, fun i hi => (hq i hi).1, fun i hi => ?_, fun c hc => ?_⟩
    · have := (hq (i + 1) hi).2.1 (by omega)
      simpa [show i < t.vals.length by omega] using this
    · obtain ⟨i, hi, rfl⟩ := List.getElem_of_mem hc
      have := (hq i (by omega)).2.2
      simpa [hi] using this
end Go.Pu
namespace Go.Proofs.YtnjdlhhgnamigaaGreat
open Go.RowKit Go.Bs Go.Pu Go.Pl Go.Sort

end Go.Proofs.YtnjdlhhgnamigaaGreat

/- Plain: what holds each number once. -/
import Derived.Test.YtbpmfaibcibleaaWaG
namespace Go.Wg
open Go.RowKit Go.Bs Go.Pl
theorem upto_nodup (n : Nat) : (upto n).Nodup := by
  unfold upto
  exact List.Pairwise.map _ (fun a b h e => h (by have e2 : (a : Int) = (b : Int) := e; omega)) List.nodup_range
theorem upto_count {n : Nat} {a : Int} (h : a ∈ upto n) : (upto n).count a = 1 := by
  have h1 := List.nodup_iff_count.1 (upto_nodup n) a
  have h2 := List.count_pos_iff.2 h
  omega
theorem whole_iff {n : Nat} {l : List Int} : srtL l = upto n ↔ InR n l ∧ ∀ k, k < n → l.count (k : Int) = 1 := by
  constructor
  · intro h
    have hp : l.Perm (upto n) := by rw [← h]; exact (srtL_perm l).symm
    refine ⟨fun x hx => mem_upto.1 (hp.mem_iff.1 hx), fun k hk => ?_⟩
    rw [hp.count_eq]
    exact upto_count (mem_upto.2 ⟨by omega, by omega⟩)
  · rintro ⟨h1, h2⟩
    refine srtL_eq (List.perm_iff_count.2 fun a => ?_) ?_
    · by_cases ha : 0 ≤ a ∧ a < n
      · obtain ⟨k, rfl⟩ : ∃ k : Nat, a = k := ⟨a.toNat, by omega⟩
        rw [h2 k (by omega), upto_count (mem_upto.2 ha)]
      · rw [List.count_eq_zero_of_not_mem (fun h => ha (h1 a h)), List.count_eq_zero_of_not_mem (fun h => ha (mem_upto.1 h))]
    · unfold upto
      rw [List.pairwise_map]
      exact List.pairwise_lt_range.imp fun h => by simp; omega
end Go.Wg

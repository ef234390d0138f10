/- Plain: what a person works in a programme; diaries of equal days. -/
import Derived.Test.YtilkoooahoecfaaPgA
import Derived.Test.YtilkoooahoecfaaRoadW
namespace Go.Tp
open Go.Pl Go.Pg Go.Yd
/-- the minutes in which a person plays -/
def wk1 (s : Sh) (p a : Nat) : Int := if (s.cast a).testBit p then (s.act a).min else 0
def wmin (s : Sh) (p : Nat) (l : List Nat) : Int := isum (l.map (wk1 s p))
theorem isum_append (a b : List Int) : isum (a ++ b) = isum a + isum b := by
  induction a with
  | nil => simp [isum]
  | cons x a ih => simp only [List.cons_append, isum, ih]; omega
theorem wmin_snoc (s : Sh) (p : Nat) (l : List Nat) (a : Nat) : wmin s p (l ++ [a]) = wmin s p l + wk1 s p a := by
  unfold wmin
  rw [List.map_append, isum_append]
  simp [isum]
theorem sheetL_min {s : Sh} (h : s.Ok) : ∀ (r : List Nat) (a : Nat) (t : Int), t + isum (r.map fun c => (s.act c).min) ≤ (s.sheetL a t r).2
  | [], a, t => by simp [isum, Sh.sheetL]
  | b :: r, a, t => by
    have ih := sheetL_min h r b (t + s.chM a b + (s.act b).min)
    have hc := h.chM a b
    simp only [List.map_cons, isum, Sh.sheetL]
    omega
theorem sheet_min {s : Sh} (h : s.Ok) (k : List Nat) : isum (k.map fun c => (s.act c).min) ≤ (s.sheet k).2 := by
  cases k with
  | nil => simp [isum, Sh.sheet]
  | cons a r =>
    have := sheetL_min h r a (s.act a).min
    simp only [List.map_cons, isum, Sh.sheet]
    omega
theorem wmin_bd {s : Sh} (h : s.Ok) (p : Nat) : ∀ (l : List Nat), (∀ c ∈ l, c < s.acts.length) → 0 ≤ wmin s p l ∧ wmin s p l ≤ isum (l.map fun c => (s.act c).min) ∧ wmin s p l ≤ 60 * l.length
  | [], _ => by simp [wmin, isum]
  | a :: l, hl => by
    obtain ⟨h1, h2, h3⟩ := wmin_bd h p l fun c hc => hl c (by simp [hc])
    have ha := (h.act (hl a (by simp))).min
    have hk : 0 ≤ wk1 s p a ∧ wk1 s p a ≤ (s.act a).min := by unfold wk1; split <;> omega
    have e : wmin s p (a :: l) = wk1 s p a + wmin s p l := rfl
    rw [e]
    simp only [List.map_cons, isum, List.length_cons]
    omega
theorem isum_rep (x : Int) : ∀ n : Nat, isum (List.replicate n x) = n * x
  | 0 => by simp [isum]
  | n + 1 => by
    rw [List.replicate_succ, isum, isum_rep x n, Int.natCast_add, Int.add_mul]
    simp
    omega
theorem why_rep (x k : Int) {n i : Nat} (hn : n ≤ 6) (hi : i < n) : whyI x k ((List.replicate n x).take (i + 1)) = if k < ((i + 1 : Nat) : Int) * x then 2 else 0 := by
  have e : (List.replicate n x).take (i + 1) = List.replicate (i + 1) x := by rw [List.take_replicate]; congr 1; omega
  rw [e]
  unfold whyI
  have h1 : longB x (List.replicate (i + 1) x) = false := by
    unfold longB
    rw [List.length_replicate]
    simp [List.getD]
  have h2 : weekL (List.replicate (i + 1) x) = List.replicate (i + 1) x := by
    unfold weekL
    rw [List.length_replicate, show i + 1 - 7 = 0 by omega, List.drop_zero]
  have h3 : restB (List.replicate (i + 1) x) = false := by
    unfold restB
    rw [List.length_replicate, show decide (7 ≤ i + 1) = false from decide_eq_false (by omega)]; rfl
  rw [h1, h3]
  unfold fullB
  rw [h2, isum_rep]
  simp
theorem rep_all {x : Int} (hx : 0 ≤ x ∧ x ≤ 1440) (n : Nat) : (!(List.replicate n x).all fun x => decide (0 ≤ x ∧ x ≤ 1440)) = false := by
  have : ((List.replicate n x).all fun x => decide (0 ≤ x ∧ x ≤ 1440)) = true := List.all_eq_true.2 fun y hy => by
    rw [(List.mem_replicate.1 hy).2]; simpa using hx
  rw [this]; rfl
theorem mul_le {x : Int} (hx : 0 ≤ x) {i n : Nat} (h : i ≤ n) : (i : Int) * x ≤ (n : Int) * x := Int.mul_le_mul_of_nonneg_right (by omega) hx
theorem weary_none {x : Int} (hx : 0 ≤ x ∧ x ≤ 480) {n : Nat} (hn : n ≤ 6) : wearyR x (n * x) (List.replicate n x) = (0, 0, 7) := by
  have h6 := mul_le hx.1 hn
  have h0 := mul_le hx.1 (Nat.zero_le n)
  unfold wearyR
  rw [show ruleB x (n * x) = true by unfold ruleB; simp; omega, List.length_replicate, rep_all (by omega), if_neg (by simp), if_neg (by omega), if_neg (by simp)]
  have hf : (List.range n).find? (fun i => whyI x (n * x) ((List.replicate n x).take (i + 1)) != 0) = none := by
    rw [List.find?_eq_none]
    intro i hi
    have hin := List.mem_range.1 hi
    rw [why_rep x _ hn hin, if_neg (by have := mul_le hx.1 (show i + 1 ≤ n by omega); omega)]
    simp
  rw [hf]
theorem weary_last {x : Int} (hx : 1 ≤ x ∧ x ≤ 480) {n : Nat} (hn : n ≤ 6) (h1 : 1 ≤ n) : wearyR x (n * x - 1) (List.replicate n x) = ((n : Int) - 1, 2, 0) := by
  have h6 := mul_le (x := x) (by omega) hn
  have h0 := mul_le (x := x) (by omega) h1
  unfold wearyR
  rw [show ruleB x (n * x - 1) = true by unfold ruleB; simp; omega, List.length_replicate, rep_all (by omega), if_neg (by simp), if_neg (by omega), if_neg (by simp)]
  have hf : (List.range n).find? (fun i => whyI x (n * x - 1) ((List.replicate n x).take (i + 1)) != 0) = some (n - 1) := by
    rw [List.find?_range_eq_some]
    refine ⟨?_, List.mem_range.2 (by omega), fun j hj => ?_⟩
    · rw [why_rep x _ hn (by omega), show n - 1 + 1 = n by omega, if_pos (by omega)]; rfl
    · rw [why_rep x _ hn (by omega), if_neg (by
        have := mul_le (x := x) (by omega) (show j + 1 + 1 ≤ n by omega)
        rw [show ((j + 1 + 1 : Nat) : Int) * x = ((j + 1 : Nat) : Int) * x + x by rw [Int.natCast_add, Int.add_mul]; simp] at this
        omega)]; rfl
  rw [hf]
  simp only
  rw [why_rep x _ hn (by omega), show n - 1 + 1 = n by omega, if_pos (by omega)]
  congr 1
  omega
end Go.Tp

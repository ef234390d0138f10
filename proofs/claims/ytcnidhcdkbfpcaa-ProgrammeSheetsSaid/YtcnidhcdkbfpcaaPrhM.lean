/- Sheets: when the acts begin and end. -/
import Derived.Test.YtcnidhcdkbfpcaaPrgT
namespace Go.Pg
open Go.Pl
namespace Sh
variable {s : Sh}
def endsL (s : Sh) : Nat → Int → List Nat → List Int
  | _, t, [] => [t]
  | a, t, b :: r => t :: endsL s b (t + s.chM a b + (s.act b).min) r
theorem ends_zero (a : Nat) (t : Int) (r : List Nat) : (s.endsL a t r).getD 0 0 = t := by cases r <;> rfl
theorem sheetL_len : ∀ (r : List Nat) (a : Nat) (t : Int), (s.sheetL a t r).1.length = r.length
  | [], _, _ => rfl
  | b :: r, a, t => by
    show ((t + s.chM a b) :: (s.sheetL b (t + s.chM a b + (s.act b).min) r).1).length = _
    rw [List.length_cons, sheetL_len r, List.length_cons]
theorem sheetL_at : ∀ (r : List Nat) (a : Nat) (t : Int) (i : Nat), i < r.length → (s.sheetL a t r).1.getD i 0 = (s.endsL a t r).getD i 0 + s.chM ((a :: r).getD i 0) (r.getD i 0) ∧ (s.endsL a t r).getD (i + 1) 0 = (s.sheetL a t r).1.getD i 0 + (s.act (r.getD i 0)).min
  | [], _, _, i, h => by simp at h
  | b :: r, a, t, 0, h => by
    show (t + s.chM a b) = t + s.chM a b ∧ (s.endsL b (t + s.chM a b + (s.act b).min) r).getD 0 0 = (t + s.chM a b) + (s.act b).min
    rw [ends_zero]
    exact ⟨rfl, rfl⟩
  | b :: r, a, t, i + 1, h => by
    have := sheetL_at r b (t + s.chM a b + (s.act b).min) i (by simpa using h)
    exact this
theorem sheetL_end : ∀ (r : List Nat) (a : Nat) (t : Int), (s.sheetL a t r).2 = (s.endsL a t r).getD r.length 0
  | [], _, _ => rfl
  | b :: r, a, t => sheetL_end r b (t + s.chM a b + (s.act b).min)
theorem ends_bd (hok : s.Ok) : ∀ (r : List Nat) (a : Nat) (t : Int), 0 ≤ t → (∀ c ∈ r, c < s.acts.length) → ∀ i, i ≤ r.length → 0 ≤ (s.endsL a t r).getD i 0 ∧ (s.endsL a t r).getD i 0 ≤ t + 1020 * i
  | r, a, t, ht, hr, 0, _ => by rw [ends_zero]; omega
  | [], a, t, ht, hr, i + 1, hi => by simp at hi
  | b :: r, a, t, ht, hr, i + 1, hi => by
    have h1 := hok.chM a b
    have h2 := (hok.act (hr b (by simp))).min
    have := ends_bd hok r b (t + s.chM a b + (s.act b).min) (by omega) (fun c hc => hr c (by simp [hc])) i (by simpa using hi)
    have e : (s.endsL a t (b :: r)).getD (i + 1) 0 = (s.endsL b (t + s.chM a b + (s.act b).min) r).getD i 0 := rfl
    rw [e]
    omega
/-- **The sheet, act by act.** -/
theorem sheet_facts (hok : s.Ok) {k : List Nat} (hne : 0 < k.length) (hk : ∀ c ∈ k, c < s.acts.length) : ∃ E : Nat → Int, (s.sheet k).1.length = k.length ∧ (s.sheet k).1.getD 0 0 = 0 ∧
    (∀ i, i < k.length → E i = (s.sheet k).1.getD i 0 + (s.act (k.getD i 0)).min) ∧ (∀ i, i + 1 < k.length → (s.sheet k).1.getD (i + 1) 0 = E i + s.chM (k.getD i 0) (k.getD (i + 1) 0)) ∧
    (s.sheet k).2 = E (k.length - 1) ∧ (∀ i, i < k.length → 0 ≤ E i ∧ E i ≤ 1020 * (i + 1)) ∧ ∀ i, i < k.length → 0 ≤ (s.sheet k).1.getD i 0 ∧ (s.sheet k).1.getD i 0 ≤ 1020 * (i + 1) := by
  cases k with
  | nil => simp at hne
  | cons a r =>
    have ha := (hok.act (hk a (by simp))).min
    have hbd := ends_bd hok r a (s.act a).min (by omega) (fun c hc => hk c (by simp [hc]))
    have hE : ∀ i, i < (a :: r).length → (s.endsL a (s.act a).min r).getD i 0 = (s.sheet (a :: r)).1.getD i 0 + (s.act ((a :: r).getD i 0)).min := by
      intro i hi
      cases i with
      | zero =>
        rw [ends_zero]
        show _ = 0 + (s.act a).min
        omega
      | succ i => exact (sheetL_at r a (s.act a).min i (by simpa using hi)).2
    have hb2 : ∀ i, i < (a :: r).length → 0 ≤ (s.endsL a (s.act a).min r).getD i 0 ∧ (s.endsL a (s.act a).min r).getD i 0 ≤ 1020 * (i + 1) := by
      intro i hi
      have := hbd i (by simp at hi; omega)
      omega
    have hst : ∀ i, i + 1 < (a :: r).length → (s.sheet (a :: r)).1.getD (i + 1) 0 = (s.endsL a (s.act a).min r).getD i 0 + s.chM ((a :: r).getD i 0) ((a :: r).getD (i + 1) 0) := fun i hi => (sheetL_at r a (s.act a).min i (by simpa using hi)).1
    refine ⟨fun i => (s.endsL a (s.act a).min r).getD i 0, ?_, rfl, hE, hst, ?_, hb2, fun i hi => ?_⟩
    · show (0 :: (s.sheetL a (s.act a).min r).1).length = _
      rw [List.length_cons, sheetL_len, List.length_cons]
    · show (s.sheetL a (s.act a).min r).2 = _
      rw [sheetL_end]
      simp
    · cases i with
      | zero => show (0 : Int) ≤ 0 ∧ (0 : Int) ≤ _; omega
      | succ i =>
        have h1 := hE (i + 1) hi
        have h2 := hb2 (i + 1) hi
        have h3 := hst i hi
        have h4 := hb2 i (by omega)
        have h5 := hok.chM ((a :: r).getD i 0) ((a :: r).getD (i + 1) 0)
        have hm : (a :: r).getD (i + 1) 0 ∈ a :: r := by
          rw [List.getD_eq_getElem?_getD, List.getElem?_eq_getElem hi]; exact List.getElem_mem hi
        have h6 := (hok.act (hk _ hm)).min
        omega
end Sh
end Go.Pg

/- The plan that the program reads off its rows. -/
import Derived.Test.YtopfhinnamhoiaaSpecB
namespace Go.Yd
open Go.Pl
/-- the least number from s on, of the next k, at which p holds; else s + k -/
def firstN (p : Nat → Bool) : Nat → Nat → Nat
  | 0, s => s
  | k + 1, s => if p s then s else firstN p k (s + 1)
theorem firstN_ge (p : Nat → Bool) : ∀ k s, s ≤ firstN p k s ∧ firstN p k s ≤ s + k
  | 0, s => by simp [firstN]
  | k + 1, s => by
    unfold firstN
    split
    · omega
    · have := firstN_ge p k (s + 1); omega
theorem firstN_lt (p : Nat → Bool) : ∀ k s j, s ≤ j → j < firstN p k s → p j = false
  | 0, s, j, h1, h2 => by simp [firstN] at h2; omega
  | k + 1, s, j, h1, h2 => by
    unfold firstN at h2
    split at h2
    · omega
    · rename_i hp
      by_cases e : j = s
      · subst e; simpa using hp
      · exact firstN_lt p k (s + 1) j (by omega) h2
theorem firstN_le (p : Nat → Bool) : ∀ k s j, s ≤ j → j < s + k → p j = true → firstN p k s ≤ j ∧ p (firstN p k s) = true
  | 0, s, j, h1, h2, h3 => by omega
  | k + 1, s, j, h1, h2, h3 => by
    unfold firstN
    split
    · rename_i hp; exact ⟨h1, hp⟩
    · rename_i hp
      have hne : j ≠ s := fun e => by subst e; simp [h3] at hp
      exact firstN_le p k (s + 1) j (by omega) (by omega) h3
theorem firstN_step {p : Nat → Bool} {k s : Nat} (h : p s = false) : firstN p (k + 1) s = firstN p k (s + 1) := by
  conv => lhs; unfold firstN
  rw [h]; rfl

theorem Rd.scan_congr {r : Rd} {t : Nat} {f g : Nat → Int} : ∀ (m s : Nat) (acc : Int), (∀ i, s ≤ i → i < s + m → f i = g i) → r.scan t f m s acc = r.scan t g m s acc
  | 0, _, _, _ => rfl
  | m + 1, s, acc, h => by
    unfold Rd.scan
    rw [h s (by omega) (by omega), Rd.scan_congr m (s + 1) _ (fun i h1 h2 => h i (by omega) (by omega))]
theorem Rd.scan_le {r : Rd} {t : Nat} {f : Nat → Int} : ∀ (m s : Nat) (acc : Int), r.scan t f m s acc ≤ acc
  | 0, _, _ => Int.le_refl _
  | m + 1, s, acc => by
    unfold Rd.scan
    split
    · have := r.scan_le (t := t) (f := f) m (s + 1) (min acc (r.price t s + f s)); omega
    · exact Int.le_refl _
theorem Rd.scan_lb {r : Rd} {t : Nat} {f : Nat → Int} : ∀ (m s : Nat) (acc : Int) (j : Nat), s ≤ j → j < s + m → (∀ i, s ≤ i → i ≤ j → r.feeds t i = true) → r.scan t f m s acc ≤ r.price t j + f j
  | 0, _, _, _, _, _, _ => by omega
  | m + 1, s, acc, j, h1, h2, h3 => by
    unfold Rd.scan
    rw [if_pos (h3 s (Nat.le_refl _) h1)]
    by_cases e : j = s
    · subst e
      have := r.scan_le (t := t) (f := f) m (j + 1) (min acc (r.price t j + f j)); omega
    · exact r.scan_lb m (s + 1) _ j (by omega) (by omega) (fun i h4 h5 => h3 i (by omega) h5)
theorem Rd.scan_hit {r : Rd} {t : Nat} {f : Nat → Int} : ∀ (m s : Nat) (acc : Int), r.scan t f m s acc = acc ∨ ∃ j, s ≤ j ∧ j < s + m ∧ (∀ i, s ≤ i → i ≤ j → r.feeds t i = true) ∧ r.scan t f m s acc = r.price t j + f j
  | 0, _, _ => .inl rfl
  | m + 1, s, acc => by
    unfold Rd.scan
    split
    · rename_i hf
      rcases r.scan_hit (t := t) (f := f) m (s + 1) (min acc (r.price t s + f s)) with h | ⟨j, h1, h2, h3, h4⟩
      · by_cases hm : acc ≤ r.price t s + f s
        · exact .inl (by rw [h]; omega)
        · exact .inr ⟨s, Nat.le_refl _, by omega, fun i h1 h2 => by rw [show i = s by omega]; exact hf, by rw [h]; omega⟩
      · exact .inr ⟨j, by omega, by omega, fun i h5 h6 => by
          by_cases e : i = s
          · subst e; exact hf
          · exact h3 i (by omega) h6, h4⟩
    · exact .inl rfl

theorem Rd.rows_stable (r : Rd) : ∀ (k m : Nat), m + k ≤ r.days.length → ∀ i, r.days.length - m ≤ i → (r.rows (m + k)).1 i = (r.rows m).1 i ∧ (r.rows (m + k)).2 i = (r.rows m).2 i
  | 0, m, _, i, _ => ⟨rfl, rfl⟩
  | k + 1, m, h, i, hi => by
    have ih := r.rows_stable k m (by omega) i hi
    have hne : i ≠ r.days.length - 1 - (m + k) := by omega
    rw [show m + (k + 1) = (m + k) + 1 from rfl]
    constructor
    · exact (upd_ne _ _ hne).trans ih.1
    · exact (upd_ne _ _ hne).trans ih.2
theorem Rd.frm_row (r : Rd) {m i : Nat} (hm : m ≤ r.days.length) (hi : r.days.length - m ≤ i) : r.frm i = (r.rows m).1 i := by
  have := (r.rows_stable (r.days.length - m) m (by omega) i hi).1
  rwa [show m + (r.days.length - m) = r.days.length by omega] at this
theorem Rd.tbl_row (r : Rd) {m i : Nat} (hm : m ≤ r.days.length) (hi : r.days.length - m ≤ i) : r.tbl i = (r.rows m).2 i := by
  have := (r.rows_stable (r.days.length - m) m (by omega) i hi).2
  rwa [show m + (r.days.length - m) = r.days.length by omega] at this
theorem Rd.frm_eq (r : Rd) {t : Nat} (ht : t < r.days.length) : r.frm t = r.fromAt t r.frm := by
  have h1 := r.frm_row (m := r.days.length - t) (i := t) (by omega) (by omega)
  rw [h1, show r.days.length - t = (r.days.length - 1 - t) + 1 by omega]
  show upd _ _ _ t = _
  rw [show r.days.length - 1 - (r.days.length - 1 - t) = t by omega, upd_self]
  unfold Rd.fromAt
  split
  · exact r.scan_congr _ _ _ (fun i h2 h3 => (r.frm_row (m := r.days.length - 1 - t) (by omega) (by omega)).symm)
  · rfl
theorem Rd.tbl_eq (r : Rd) {t : Nat} (ht : t < r.days.length) : r.tbl t = r.tabAt t (r.frm t) r.tbl := by
  have h1 := r.tbl_row (m := r.days.length - t) (i := t) (by omega) (by omega)
  have h2 := r.frm_row (m := r.days.length - t) (i := t) (by omega) (by omega)
  have h3 := r.tbl_row (m := r.days.length - 1 - t) (i := t + 1) (by omega) (by omega)
  rw [h1, h2, show r.days.length - t = (r.days.length - 1 - t) + 1 by omega]
  show upd _ _ _ t = r.tabAt t (upd _ _ _ t) _
  rw [show r.days.length - 1 - (r.days.length - 1 - t) = t by omega, upd_self, upd_self]
  unfold Rd.tabAt
  rw [h3]
theorem Rd.frm_end (r : Rd) : r.frm r.days.length = 0 := by rw [r.frm_row (m := 0) (by omega) (by omega)]; rfl
theorem Rd.tbl_end (r : Rd) : r.tbl r.days.length = 0 := by rw [r.tbl_row (m := 0) (by omega) (by omega)]; rfl
theorem Rd.frm_bd {r : Rd} (h : r.ok) (i : Nat) : 0 ≤ r.frm i ∧ r.frm i ≤ 1000000000 := (r.rows_bd h _ (Nat.le_refl _)).1 i
theorem Rd.tbl_bd {r : Rd} (h : r.ok) (i : Nat) : 0 ≤ r.tbl i ∧ r.tbl i ≤ 1000000000 := (r.rows_bd h _ (Nat.le_refl _)).2 i
/-- what is on the table on a day is what is planned from a day on which nothing was needed before -/
theorem Rd.tbl_hit (r : Rd) : ∀ (k t : Nat), t + k = r.days.length → ∃ s, t ≤ s ∧ s ≤ r.days.length ∧ r.frm s = r.tbl t ∧ ∀ j, t ≤ j → j < s → (r.day j).need = 0
  | 0, t, h => ⟨t, Nat.le_refl _, by omega, by rw [show t = r.days.length by omega, r.frm_end, r.tbl_end], fun j h1 h2 => by omega⟩
  | k + 1, t, h => by
    have h1 := r.tbl_eq (t := t) (by omega)
    unfold Rd.tabAt at h1
    split at h1
    · rename_i hz
      by_cases hm : r.frm t ≤ r.tbl (t + 1)
      · exact ⟨t, Nat.le_refl _, by omega, by omega, fun j h2 h3 => by omega⟩
      · obtain ⟨s, h2, h3, h4, h5⟩ := r.tbl_hit k (t + 1) (by omega)
        exact ⟨s, by omega, h3, by omega, fun j h6 h7 => by
          by_cases e : j = t
          · rw [e]; exact hz
          · exact h5 j (by omega) h7⟩
    · exact ⟨t, Nat.le_refl _, by omega, h1.symm, fun j h2 h3 => by omega⟩
theorem Rd.need_day (r : Rd) {i j : Nat} (h : i < j) (hj : j ≤ r.days.length) : r.need i j = (r.day i).need + r.need (i + 1) j := by
  unfold Rd.need
  rw [show j - i = (j - (i + 1)) + 1 by omega, List.drop_eq_getElem_cons (show i < r.days.length by omega), List.take_succ_cons, List.map_cons]
  show r.days[i].need + _ = _
  rw [r.day_get (by omega)]
theorem Rd.need_zero (r : Rd) : ∀ (k i : Nat), i + k ≤ r.days.length → (∀ j, i ≤ j → j < i + k → (r.day j).need = 0) → r.need i (i + k) = 0
  | 0, i, _, _ => by unfold Rd.need; simp [isum]
  | k + 1, i, h, hz => by
    rw [r.need_day (by omega) h, hz i (by omega) (by omega), show i + (k + 1) = (i + 1) + k by omega, r.need_zero k (i + 1) (by omega) (fun j h1 h2 => hz j (by omega) (by omega))]
    rfl
/-- a day from which all can be planned has a next one -/
theorem Rd.next_ex {r : Rd} {t : Nat} (ht : t < r.days.length) (hf : r.frm t < 1000000000) :
    (r.day t).opn = true ∧ ∃ j, t + 1 ≤ j ∧ j ≤ r.days.length ∧ (∀ i, t + 1 ≤ i → i ≤ j → r.feeds t i = true) ∧ r.price t j + r.frm j = r.frm t := by
  have h1 := r.frm_eq ht
  unfold Rd.fromAt at h1
  split at h1
  · rename_i ho
    refine ⟨ho, ?_⟩
    rcases r.scan_hit (t := t) (f := r.frm) (r.days.length - t) (t + 1) 1000000000 with h2 | ⟨j, h2, h3, h4, h5⟩
    · omega
    · exact ⟨j, h2, by omega, h4, by omega⟩
  · omega
def Rd.nextP (r : Rd) (t s : Nat) : Bool := r.price t s + r.frm s == r.frm t
def Rd.next (r : Rd) (t : Nat) : Nat := firstN (r.nextP t) (r.days.length - t) (t + 1)
theorem Rd.next_spec {r : Rd} (h : r.ok) {t : Nat} (ht : t < r.days.length) (hf : r.frm t < 1000000000) :
    t + 1 ≤ r.next t ∧ r.next t ≤ r.days.length ∧ r.nextP t (r.next t) = true ∧ r.frm (r.next t) < 1000000000 := by
  obtain ⟨_, j, h1, h2, _, h4⟩ := r.next_ex ht hf
  have h5 := firstN_le (r.nextP t) (r.days.length - t) (t + 1) j h1 (by omega) (by unfold Rd.nextP; simpa using h4)
  have h6 := firstN_ge (r.nextP t) (r.days.length - t) (t + 1)
  have h7 : r.price t (r.next t) + r.frm (r.next t) = r.frm t := by have := h5.2; unfold Rd.nextP at this; unfold Rd.next Rd.nextP; simpa using this
  have h8 := r.price_nonneg h ht (r.next t)
  exact ⟨h6.1, by have := h5.1; unfold Rd.next; omega, h5.2, by omega⟩
/-- the purchases from day t on -/
def Rd.chain (r : Rd) : Nat → Nat → List Nat
  | 0, t => [t]
  | k + 1, t => if r.feeds t r.days.length && (r.price t r.days.length == r.frm t) then [t] else if r.next t = r.days.length then [t] else t :: r.chain k (r.next t)
def Rd.first (r : Rd) : Nat := firstN (fun t => r.frm t == r.tbl 0) (r.days.length + 1) 0
def Rd.planN (r : Rd) : List Nat := if r.tbl 0 = 0 ∧ r.need 0 r.days.length = 0 then [] else r.chain r.days.length r.first
theorem Rd.first_spec {r : Rd} (hz : ¬ (r.tbl 0 = 0 ∧ r.need 0 r.days.length = 0)) : r.first < r.days.length ∧ r.frm r.first = r.tbl 0 := by
  obtain ⟨s, h1, h2, h3, h4⟩ := r.tbl_hit r.days.length 0 (by omega)
  have hs : s < r.days.length := by
    rcases Nat.lt_or_ge s r.days.length with h | h
    · exact h
    · exfalso
      have e : s = r.days.length := by omega
      subst e
      refine hz ⟨by rw [← h3, r.frm_end], ?_⟩
      have := r.need_zero r.days.length 0 (by omega) (fun j h5 h6 => h4 j h5 (by omega))
      simpa using this
  have h5 := firstN_le (fun t => r.frm t == r.tbl 0) (r.days.length + 1) 0 s h1 (by omega) (by simpa using h3)
  exact ⟨by have := h5.1; unfold Rd.first; omega, by unfold Rd.first; simpa using h5.2⟩
end Go.Yd

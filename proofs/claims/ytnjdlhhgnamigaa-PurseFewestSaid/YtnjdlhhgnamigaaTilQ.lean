/- Tills by the reference's words; gaps: as plain data. -/
import Derived.Test.YtnjdlhhgnamigaaTilP
namespace Go.Pu
open Go.Pl

/-- the reference's way to write 'it cannot be given' -/
def encF (x : Int) : Int := if x = 401 then -1 else x
def refN (g : Nat → Int) (v a : Nat) : Nat → Int
  | 0 => -1
  | n + 1 => if 0 ≤ g (a - n * v) ∧ (refN g v a n < 0 ∨ g (a - n * v) + n < refN g v a n) then g (a - n * v) + n else refN g v a n
theorem bestN_nonneg {f : Nat → Int} (hf : ∀ b, 0 ≤ f b) (v a : Nat) : ∀ k, 0 ≤ bestN f v a k
  | 0 => by unfold bestN; omega
  | k + 1 => by have := bestN_nonneg hf v a k; have := hf (a - k * v); unfold bestN; omega
theorem refN_eq {f g : Nat → Int} (v a : Nat) (hg : ∀ b, g b = encF (f b)) (h0 : ∀ b, 0 ≤ f b) : ∀ k, (∀ n : Nat, n < k → ∀ b, f b = 401 ∨ f b + n < 401) → refN g v a k = encF (bestN f v a k)
  | 0, _ => by simp [refN, bestN, encF]
  | k + 1, h => by
    have ih := refN_eq v a hg h0 k (fun n hn => h n (by omega))
    have h1 := h k (by omega) (a - k * v)
    have h2 := h0 (a - k * v)
    have h3 := bestN_nonneg h0 v a k
    have h4 := (bestN_le f v a k).1
    unfold refN bestN
    rw [ih, hg]
    unfold encF
    by_cases e1 : f (a - k * v) = 401
    · rw [if_pos e1, if_neg (by omega)]
      by_cases e2 : bestN f v a k = 401
      · rw [if_pos e2, if_pos (by omega)]
      · rw [if_neg e2, if_neg (by omega)]; omega
    · rw [if_neg e1]
      by_cases e2 : bestN f v a k = 401
      · rw [if_pos e2, if_pos ⟨h2, by omega⟩, if_neg (by omega)]; omega
      · rw [if_neg e2]
        by_cases e3 : f (a - k * v) + k < bestN f v a k
        · rw [if_pos ⟨h2, .inr e3⟩, if_neg (by omega)]; omega
        · rw [if_neg (by omega), if_neg (by omega)]; omega
section
variable {t : Tl}
/-- all that the last kinds can give is worth no more than so many pieces of the dearest -/
theorem Tl.row_worth (h : t.ok) : ∀ (m i : Nat), i + m = t.vals.length → ∀ a, t.row i a ≠ 401 → ∀ V, (∀ j, i ≤ j → j < t.vals.length → t.v j ≤ V) → (a : Int) ≤ t.row i a * V
  | 0, i, hi, a, hne, V, _ => by
    obtain rfl : i = t.vals.length := by omega
    rw [t.row_end] at hne ⊢
    split at hne
    · rename_i e; subst e; simp
    · exact absurd rfl hne
  | m + 1, i, hi, a, hne, V, hV => by
    have hil : i < t.vals.length := by omega
    have hr := t.row_eq hil a
    rcases bestN_hit (t.row (i + 1)) (t.v i) a (t.ways i a) with e | ⟨n, hn, e⟩
    · exact absurd (hr.trans e) hne
    · rw [hr] at hne ⊢
      have hb := Tl.row_bd h (i + 1) (a - n * t.v i)
      rw [e] at hne ⊢
      have hb2 := (bestN_le (t.row (i + 1)) (t.v i) a (t.ways i a)).1
      rw [e] at hb2
      have hv := h.v_bd hil
      have hna : n * t.v i ≤ a := by
        have h5 : n ≤ a / t.v i := by unfold Tl.ways at hn; omega
        exact Nat.le_trans (Nat.mul_le_mul_right _ h5) (Nat.div_mul_le_self a _)
      by_cases e4 : t.row (i + 1) (a - n * t.v i) = 401
      · have : n = 0 := by omega
        subst this
        rw [e4] at hne
        exact absurd rfl hne
      · have ih := Tl.row_worth h m (i + 1) (by omega) _ e4 V (fun j h1 h2 => hV j (by omega) h2)
        have h6 := hV i (Nat.le_refl _) hil
        have h7 : (n : Int) * t.v i ≤ n * V := Int.mul_le_mul_of_nonneg_left (by omega) (by omega)
        rw [Int.add_mul]
        have h8 : ((a - n * t.v i : Nat) : Int) = (a : Int) - (n : Int) * t.v i := by rw [Int.natCast_sub hna, Int.natCast_mul]
        omega
theorem Tl.v_mono (h : t.ok) {i : Nat} : ∀ (k : Nat), i + k < t.vals.length → t.v (i + k) ≤ t.v i
  | 0, _ => Nat.le_refl _
  | k + 1, hk => by
    have := Tl.v_mono h (i := i) k (by omega)
    have h2 := h.v_fal (i := i + k) hk
    rw [show i + (k + 1) = i + k + 1 by omega]
    omega
/-- the reference's test is the program's -/
theorem Tl.fits_ref (h : t.ok) {i a : Nat} (hi : i < t.vals.length) (hne : t.row i a ≠ 401) {n : Nat} (hn : n * t.v i ≤ a) :
    (encF (t.row (i + 1) (a - n * t.v i)) = t.row i a - n) ↔ t.fits i a (t.row i a) n = true := by
  have hw := Tl.row_worth h (t.vals.length - i) i (by omega) a hne (t.v i) (fun j h1 h2 => by
    have := Tl.v_mono h (i := i) (j - i) (by omega)
    rwa [show i + (j - i) = j by omega] at this)
  have hb := Tl.row_bd h i a
  have hv := h.v_bd hi
  have hnl : (n : Int) ≤ t.row i a := by
    rcases Int.lt_or_le (t.row i a) n with h1 | h1
    · exfalso
      have h2 : (t.row i a + 1) * (t.v i : Int) ≤ (n : Int) * t.v i := Int.mul_le_mul_of_nonneg_right (by omega) (by omega)
      rw [Int.add_mul] at h2
      have h3 : (n : Int) * t.v i ≤ a := by exact_mod_cast hn
      omega
    · exact h1
  unfold Tl.fits encF
  rw [beq_iff_eq]
  split
  · rename_i e; rw [e]; omega
  · exact Iff.rfl
/-- from where on the reference goes down -/
theorem downN_more (p : Nat → Bool) (M : Nat) : ∀ N, M ≤ N → (∀ j, M < j → j ≤ N → p j = false) → downN p N = downN p M
  | 0, h, _ => by obtain rfl : M = 0 := by omega
                  rfl
  | N + 1, h, hp => by
    by_cases e : M = N + 1
    · subst e; rfl
    · rw [show downN p (N + 1) = if p (N + 1) then N + 1 else downN p N from rfl, hp (N + 1) (by omega) (Nat.le_refl _)]
      exact downN_more p M N (by omega) (fun j h1 h2 => hp j h1 (by omega))

/-- can an amount be given by pieces of some kinds? -/
def rep : List (Nat × Nat) → Nat → Prop
  | [], a => a = 0
  | (v, c) :: r, a => ∃ n, n ≤ c ∧ n * v ≤ a ∧ rep r (a - n * v)
end
end Go.Pu

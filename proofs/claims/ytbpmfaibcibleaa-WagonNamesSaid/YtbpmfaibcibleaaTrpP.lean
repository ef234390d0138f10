/- Plain: how long a trip takes, hour by hour and by a formula. -/
namespace Go.Wg
/-- one hour more: the time and the hours of the shift -/
def stp (d s b r : Nat) (x : Nat × Nat) : Nat × Nat := if x.2 = d then (x.1 + r + 1, 1) else if 0 < x.2 ∧ x.2 % s = 0 then (x.1 + b + 1, x.2 + 1) else (x.1 + 1, x.2 + 1)
def tim (d s b r : Nat) : Nat → Nat × Nat
  | 0 => (0, 0)
  | k + 1 => stp d s b r (tim d s b r k)
/-- a shift of so many hours -/
def shf (s b h : Nat) : Nat := if h = 0 then 0 else h + (h - 1) / s * b
theorem shf_succ {s b m : Nat} (hm : 1 ≤ m) : shf s b (m + 1) = shf s b m + 1 + if m % s = 0 then b else 0 := by
  unfold shf
  rw [if_neg (by omega), if_neg (by omega), Nat.add_sub_cancel]
  obtain ⟨q, rfl⟩ : ∃ q, m = q + 1 := ⟨m - 1, by omega⟩
  rw [Nat.add_sub_cancel, Nat.succ_div]
  by_cases hd : s ∣ q + 1
  · rw [if_pos hd, if_pos (Nat.mod_eq_zero_of_dvd hd), Nat.add_mul, Nat.one_mul]
    omega
  · rw [if_neg hd, if_neg (fun h => hd (Nat.dvd_of_mod_eq_zero h))]
    simp only [Nat.add_zero]
    omega
theorem tim_inv {d s b r : Nat} (hd : 1 ≤ d) : ∀ k, 0 < k → ∃ f m, k = f * d + m ∧ 1 ≤ m ∧ m ≤ d ∧ tim d s b r k = (f * (shf s b d + r) + shf s b m, m)
  | 0, h => by omega
  | 1, _ => by
    refine ⟨0, 1, by omega, by omega, hd, ?_⟩
    show stp d s b r (0, 0) = _
    unfold stp
    rw [if_neg (by simp; omega), if_neg (by simp)]
    simp [shf]
  | k + 2, _ => by
    obtain ⟨f, m, hk, h1, h2, ht⟩ := tim_inv (d := d) (s := s) (b := b) (r := r) hd (k + 1) (by omega)
    show ∃ f m, k + 2 = f * d + m ∧ 1 ≤ m ∧ m ≤ d ∧ stp d s b r (tim d s b r (k + 1)) = _
    rw [ht]
    by_cases he : m = d
    · subst he
      refine ⟨f + 1, 1, by rw [Nat.add_mul]; omega, by omega, hd, ?_⟩
      unfold stp
      rw [if_pos rfl]
      simp only [shf, Nat.add_mul]
      simp
      omega
    · refine ⟨f, m + 1, by omega, by omega, by omega, ?_⟩
      unfold stp
      rw [if_neg he, shf_succ h1]
      by_cases hm : m % s = 0
      · rw [if_pos ⟨h1, hm⟩, if_pos hm]
        simp only [Prod.mk.injEq, and_true]
        omega
      · rw [if_neg (fun h => hm h.2), if_neg hm]
        simp only [Prod.mk.injEq, and_true]
        omega
/-- the trip by the formula -/
theorem tim_formula {d s b r : Nat} (hd : 1 ≤ d) (k : Nat) : (tim d s b r k).1 = (k - 1) / d * (shf s b d + r) + shf s b (k - (k - 1) / d * d) := by
  rcases Nat.eq_zero_or_pos k with rfl | hk
  · simp [tim, shf]
  · obtain ⟨f, m, rfl, h1, h2, ht⟩ := tim_inv (s := s) (b := b) (r := r) hd k hk
    have e : (f * d + m - 1) / d = f := by
      rw [show f * d + m - 1 = m - 1 + d * f by rw [Nat.mul_comm]; omega, Nat.add_mul_div_left _ _ (by omega), Nat.div_eq_of_lt (by omega)]
      omega
    rw [ht, e, Nat.add_sub_cancel_left]
/-- an hour more takes at least one hour more -/
theorem tim_more {d s b r : Nat} (k : Nat) : (tim d s b r k).1 + 1 ≤ (tim d s b r (k + 1)).1 := by
  show _ ≤ (stp d s b r (tim d s b r k)).1
  unfold stp
  split
  · simp only; omega
  · split
    · simp only; omega
    · simp only; omega
/-- a trip of one stint takes just its hours -/
theorem tim_stint {d s b r : Nat} (hs : s ≤ d) (h1 : 1 ≤ s) {k : Nat} (hk : k ≤ s) : (tim d s b r k).1 = k := by
  rw [tim_formula (by omega)]
  rcases Nat.eq_zero_or_pos k with rfl | hp
  · simp [shf]
  · rw [Nat.div_eq_of_lt (show k - 1 < d by omega)]
    simp only [Nat.zero_mul, Nat.zero_add, Nat.sub_zero]
    unfold shf
    rw [if_neg (by omega), Nat.div_eq_of_lt (show k - 1 < s by omega)]
    omega
theorem shf_mono {s b b2 : Nat} (hb : b ≤ b2) (h : Nat) : shf s b h ≤ shf s b2 h := by
  unfold shf
  split
  · omega
  · have := Nat.mul_le_mul_left ((h - 1) / s) hb
    omega
/-- longer breaks and rests do not make it shorter -/
theorem tim_mono {d s b r b2 r2 : Nat} (hd : 1 ≤ d) (hb : b ≤ b2) (hr : r ≤ r2) (k : Nat) : (tim d s b r k).1 ≤ (tim d s b2 r2 k).1 := by
  rw [tim_formula hd, tim_formula hd]
  have h1 := shf_mono (s := s) hb (k - (k - 1) / d * d)
  have h2 := shf_mono (s := s) hb d
  have h3 := Nat.mul_le_mul_left ((k - 1) / d) (Nat.add_le_add h2 hr)
  omega
end Go.Wg

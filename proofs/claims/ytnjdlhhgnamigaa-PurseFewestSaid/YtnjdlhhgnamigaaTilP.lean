/- Tills, as plain data. -/
import Derived.Test.YtnjdlhhgnamigaaSortP
namespace Go.Pu
open Go.Pl

structure Tl where
  vals : List Int
  cnts : List Int
def fallsB : Int → List Int → Bool
  | _, [] => true
  | last, n :: l => decide (1 ≤ n ∧ n < last) && fallsB n l
def Tl.okB (t : Tl) : Bool := decide ((1 ≤ t.vals.length ∧ t.vals.length ≤ 8) ∧ t.cnts.length = t.vals.length) && (fallsB 1001 t.vals && t.cnts.all fun c => decide (0 ≤ c ∧ c ≤ 50))
theorem falls_iff : ∀ (l : List Int) (last : Int), fallsB last l = true ↔ (∀ i (h : i < l.length), 1 ≤ l[i]) ∧ (∀ i (h : i < l.length), l[i] < if i = 0 then last else l.getD (i - 1) 0)
  | [], last => by simp [fallsB]
  | n :: l, last => by
    unfold fallsB
    rw [Bool.and_eq_true, decide_eq_true_eq, falls_iff l n]
    constructor
    · rintro ⟨⟨h1, h2⟩, h3, h4⟩
      refine ⟨fun i h => ?_, fun i h => ?_⟩
      · cases i with
        | zero => exact h1
        | succ i => exact h3 i (by simpa using h)
      · cases i with
        | zero => exact h2
        | succ i =>
          have := h4 i (by simpa using h)
          rw [if_neg (Nat.succ_ne_zero i), Nat.add_sub_cancel]
          cases i with
          | zero => simpa using this
          | succ i => simpa using this
    · rintro ⟨h1, h2⟩
      refine ⟨⟨h1 0 (by simp), h2 0 (by simp)⟩, fun i h => h1 (i + 1) (by simpa using h), fun i h => ?_⟩
      have := h2 (i + 1) (by simpa using h)
      rw [if_neg (Nat.succ_ne_zero i), Nat.add_sub_cancel] at this
      cases i with
      | zero => simpa using this
      | succ i => simpa using this
structure Tl.ok (t : Tl) : Prop where
  len : 1 ≤ t.vals.length ∧ t.vals.length ≤ 8
  eq : t.cnts.length = t.vals.length
  rng : ∀ i (h : i < t.vals.length), 1 ≤ t.vals[i] ∧ t.vals[i] ≤ 1000
  fal : ∀ i (h : i + 1 < t.vals.length), t.vals[i + 1] < t.vals[i]
  cnt : ∀ c ∈ t.cnts, 0 ≤ c ∧ c ≤ 50
theorem falls_ok {l : List Int} : fallsB 1001 l = true ↔ (∀ i (h : i < l.length), 1 ≤ l[i] ∧ l[i] ≤ 1000) ∧ ∀ i (h : i + 1 < l.length), l[i + 1] < l[i] := by
  rw [falls_iff]
  constructor
  · rintro ⟨h1, h2⟩
    have h3 : ∀ i (h : i + 1 < l.length), l[i + 1] < l[i] := fun i h => by
      have := h2 (i + 1) h
      rw [if_neg (Nat.succ_ne_zero i), Nat.add_sub_cancel] at this
      simpa [show i < l.length by omega] using this
    refine ⟨fun i => ?_, h3⟩
    induction i with
    | zero => intro h; have a := h1 0 h; have b := h2 0 h; simp only [if_true] at b; omega
    | succ i ih => intro h; have a := h1 (i + 1) h; have b := h3 i h; have c := ih (by omega); omega
  · rintro ⟨h1, h2⟩
    refine ⟨fun i h => (h1 i h).1, fun i h => ?_⟩
    by_cases h0 : i = 0
    · subst h0; rw [if_pos rfl]; have := (h1 0 h).2; omega
    · rw [if_neg h0]
      obtain ⟨j, rfl⟩ : ∃ j, i = j + 1 := ⟨i - 1, by omega⟩
      have := h2 j h
      simpa [show j < l.length by omega] using this
theorem Tl.okB_iff (t : Tl) : t.okB = true ↔ t.ok := by
  unfold Tl.okB
  rw [Bool.and_eq_true, Bool.and_eq_true, decide_eq_true_eq, falls_ok, List.all_eq_true]
  constructor
  · rintro ⟨⟨h1, h2⟩, ⟨h3, h4⟩, h5⟩
    exact ⟨h1, h2, h3, h4, fun c hc => of_decide_eq_true (h5 c hc)⟩
  · intro h
    exact ⟨⟨h.len, h.eq⟩, ⟨h.rng, h.fal⟩, fun c hc => decide_eq_true (h.cnt c hc)⟩

def Tl.v (t : Tl) (i : Nat) : Nat := (t.vals.getD i 0).toNat
def Tl.c (t : Tl) (i : Nat) : Nat := (t.cnts.getD i 0).toNat
section
variable {t : Tl}
theorem Tl.ok.v_eq (h : t.ok) {i : Nat} (hi : i < t.vals.length) : t.vals[i] = (t.v i : Int) := by
  have := h.rng i hi
  unfold Tl.v
  simp [hi]; omega
theorem Tl.ok.v_bd (h : t.ok) {i : Nat} (hi : i < t.vals.length) : 1 ≤ t.v i ∧ t.v i ≤ 1000 := by
  have := h.rng i hi
  have := h.v_eq hi
  omega
theorem Tl.ok.c_eq (h : t.ok) {i : Nat} (hi : i < t.vals.length) : t.cnts[i]'(by rw [h.eq]; exact hi) = (t.c i : Int) := by
  have hi' : i < t.cnts.length := by rw [h.eq]; exact hi
  have := h.cnt _ (List.getElem_mem hi')
  unfold Tl.c
  simp [hi']; omega
theorem Tl.ok.c_bd (h : t.ok) {i : Nat} (hi : i < t.vals.length) : t.c i ≤ 50 := by
  have hi' : i < t.cnts.length := by rw [h.eq]; exact hi
  have := h.cnt _ (List.getElem_mem hi')
  have := h.c_eq hi
  omega
theorem Tl.ok.v_fal (h : t.ok) {i : Nat} (hi : i + 1 < t.vals.length) : t.v (i + 1) < t.v i := by
  have := h.fal i hi
  have := h.v_eq hi
  have := h.v_eq (show i < t.vals.length by omega)
  omega

/-- the least of the first k ways to take pieces of a kind -/
def bestN (f : Nat → Int) (v a : Nat) : Nat → Int
  | 0 => 401
  | n + 1 => min (bestN f v a n) (f (a - n * v) + n)
theorem bestN_le (f : Nat → Int) (v a : Nat) : ∀ k, bestN f v a k ≤ 401 ∧ ∀ n, n < k → bestN f v a k ≤ f (a - n * v) + n
  | 0 => ⟨Int.le_refl _, fun n h => by omega⟩
  | k + 1 => by
    obtain ⟨h1, h2⟩ := bestN_le f v a k
    unfold bestN
    refine ⟨by omega, fun n h => ?_⟩
    by_cases e : n = k
    · subst e; omega
    · have := h2 n (by omega); omega
theorem bestN_hit (f : Nat → Int) (v a : Nat) : ∀ k, bestN f v a k = 401 ∨ ∃ n, n < k ∧ bestN f v a k = f (a - n * v) + n
  | 0 => .inl rfl
  | k + 1 => by
    unfold bestN
    rcases bestN_hit f v a k with h | ⟨n, hn, h⟩
    · by_cases hk : f (a - k * v) + k ≤ 401
      · exact .inr ⟨k, by omega, by rw [h]; omega⟩
      · exact .inl (by rw [h]; omega)
    · by_cases hk : f (a - k * v) + k ≤ bestN f v a k
      · exact .inr ⟨k, by omega, by omega⟩
      · exact .inr ⟨n, by omega, by omega⟩
/-- how many ways there are to take pieces of kind i for an amount -/
def Tl.ways (t : Tl) (i a : Nat) : Nat := min (t.c i) (a / t.v i) + 1
/-- the fewest pieces of the last m kinds -/
def Tl.few (t : Tl) : Nat → Nat → Int
  | 0, a => if a = 0 then 0 else 401
  | m + 1, a => bestN (t.few m) (t.v (t.vals.length - 1 - m)) a (t.ways (t.vals.length - 1 - m) a)
/-- row i of the tables -/
def Tl.row (t : Tl) (i a : Nat) : Int := t.few (t.vals.length - i) a
theorem Tl.row_end (t : Tl) (a : Nat) : t.row t.vals.length a = if a = 0 then 0 else 401 := by unfold Tl.row; rw [Nat.sub_self]; rfl
theorem Tl.row_eq (t : Tl) {i : Nat} (hi : i < t.vals.length) (a : Nat) : t.row i a = bestN (t.row (i + 1)) (t.v i) a (t.ways i a) := by
  unfold Tl.row
  rw [show t.vals.length - i = (t.vals.length - (i + 1)) + 1 by omega]
  show bestN _ (t.v (t.vals.length - 1 - (t.vals.length - (i + 1)))) a (t.ways (t.vals.length - 1 - (t.vals.length - (i + 1))) a) = _
  rw [show t.vals.length - 1 - (t.vals.length - (i + 1)) = i by omega]
theorem Tl.few_bd (h : t.ok) : ∀ m, m ≤ t.vals.length → ∀ a, 0 ≤ t.few m a ∧ (t.few m a ≤ 50 * m ∨ t.few m a = 401)
  | 0, _, a => by unfold Tl.few; split <;> omega
  | m + 1, hm, a => by
    have ih := few_bd h m (by omega)
    unfold Tl.few
    rcases bestN_hit (t.few m) (t.v (t.vals.length - 1 - m)) a (t.ways (t.vals.length - 1 - m) a) with e | ⟨n, hn, e⟩
    · rw [e]; omega
    · have hb := (bestN_le (t.few m) (t.v (t.vals.length - 1 - m)) a (t.ways (t.vals.length - 1 - m) a)).1
      have hc := h.c_bd (i := t.vals.length - 1 - m) (by omega)
      have := ih (a - n * t.v (t.vals.length - 1 - m))
      unfold Tl.ways at hn
      rw [e] at hb ⊢
      omega
theorem Tl.row_bd (h : t.ok) (i a : Nat) : 0 ≤ t.row i a ∧ t.row i a ≤ 401 := by
  have := Tl.few_bd h (t.vals.length - i) (by omega) a
  have := h.len
  unfold Tl.row
  omega
/-- the way that the program goes down -/
def downN (p : Nat → Bool) : Nat → Nat
  | 0 => 0
  | n + 1 => if p (n + 1) then n + 1 else downN p n
theorem downN_spec (p : Nat → Bool) : ∀ N k, k ≤ N → p k = true → k ≤ downN p N ∧ downN p N ≤ N ∧ p (downN p N) = true ∧ ∀ j, downN p N < j → j ≤ N → p j = false
  | 0, k, hk, hp => by
    obtain rfl : k = 0 := by omega
    exact ⟨Nat.le_refl _, Nat.le_refl _, hp, fun j h1 h2 => by omega⟩
  | N + 1, k, hk, hp => by
    unfold downN
    by_cases h : p (N + 1) = true
    · rw [if_pos h]
      exact ⟨hk, Nat.le_refl _, h, fun j h1 h2 => by omega⟩
    · rw [if_neg h]
      have hk' : k ≤ N := by
        rcases Nat.lt_or_ge N k with h1 | h1
        · obtain rfl : k = N + 1 := by omega
          exact absurd hp h
        · exact h1
      obtain ⟨a, b, c, d⟩ := downN_spec p N k hk' hp
      refine ⟨a, by omega, c, fun j h1 h2 => ?_⟩
      by_cases e : j = N + 1
      · subst e; simpa using h
      · exact d j h1 (by omega)
def Tl.fits (t : Tl) (i a : Nat) (left : Int) (n : Nat) : Bool := t.row (i + 1) (a - n * t.v i) == left - n
def Tl.take (t : Tl) (i a : Nat) (left : Int) : Nat := downN (t.fits i a left) (min (t.c i) (a / t.v i))
/-- the pieces of the last m kinds -/
def Tl.chg (t : Tl) : Nat → Nat → Int → List Nat
  | 0, _, _ => []
  | m + 1, a, left =>
    let i := t.vals.length - 1 - m
    let n := t.take i a left
    n :: t.chg m (a - n * t.v i) (left - n)
/-- what Change hands back -/
def changeR (t : Tl) (amount : Int) : List Nat × Int :=
  if t.okB then (if 0 ≤ amount ∧ amount ≤ 5000 then (if t.row 0 amount.toNat = 401 then ([], 7) else (t.chg t.vals.length amount.toNat (t.row 0 amount.toNat), 0)) else ([], 2)) else ([], 1)
theorem Tl.take_spec (h : t.ok) {i a : Nat} (hi : i < t.vals.length) (hne : t.row i a ≠ 401) :
    t.take i a (t.row i a) ≤ t.c i ∧ t.take i a (t.row i a) * t.v i ≤ a ∧ t.row (i + 1) (a - t.take i a (t.row i a) * t.v i) = t.row i a - t.take i a (t.row i a) := by
  have hv := h.v_bd hi
  rw [t.row_eq hi] at hne
  rcases bestN_hit (t.row (i + 1)) (t.v i) a (t.ways i a) with e | ⟨n, hn, e⟩
  · exact absurd e hne
  · have hN : n ≤ min (t.c i) (a / t.v i) := by unfold Tl.ways at hn; omega
    have hp : t.fits i a (t.row i a) n = true := by
      unfold Tl.fits
      rw [t.row_eq hi, e]
      simp
    obtain ⟨-, h2, h3, -⟩ := downN_spec (t.fits i a (t.row i a)) _ n hN hp
    have h4 : t.take i a (t.row i a) ≤ min (t.c i) (a / t.v i) := h2
    refine ⟨by omega, ?_, ?_⟩
    · have h5 : t.take i a (t.row i a) ≤ a / t.v i := by omega
      exact Nat.le_trans (Nat.mul_le_mul_right _ h5) (Nat.div_mul_le_self a _)
    · have h6 : (t.row (i + 1) (a - t.take i a (t.row i a) * t.v i) == t.row i a - (t.take i a (t.row i a) : Nat)) = true := h3
      simpa using h6
end
end Go.Pu

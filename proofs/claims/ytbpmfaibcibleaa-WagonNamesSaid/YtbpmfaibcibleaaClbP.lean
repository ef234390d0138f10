/- Plain: the longest climb, as the program reckons it. -/
import Derived.Test.YtbpmfaibcibleaaWagP
namespace Go.Wg
open Go.Pl
def stpC (ts : List Th) (g : Nat → Int) (need : Int) (r : Int × Int) (k : Nat) : Int × Int := if need < (thAt ts k).need ∧ r.1 < g k then (g k, (k : Int)) else r
/-- the best of m things from i on, and where it is -/
def scanC (ts : List Th) (g : Nat → Int) (need : Int) (i : Nat) : Nat → Int × Int
  | 0 => (0, 0)
  | m + 1 => stpC ts g need (scanC ts g need i m) (i + m)
theorem scanC_bd {ts : List Th} {g : Nat → Int} {B : Int} (hg : ∀ k, g k ≤ B) (h0 : 0 ≤ B) (need : Int) (i : Nat) : ∀ m, 0 ≤ (scanC ts g need i m).1 ∧ (scanC ts g need i m).1 ≤ B ∧ 0 ≤ (scanC ts g need i m).2 ∧ (scanC ts g need i m).2 ≤ i + m
  | 0 => by simp only [scanC]; omega
  | m + 1 => by
    have ih := scanC_bd (ts := ts) hg h0 need i m
    have := hg (i + m)
    unfold scanC stpC
    split
    · simp only; omega
    · omega
theorem scanC_hit {ts : List Th} {g : Nat → Int} (need : Int) (i : Nat) : ∀ m, (scanC ts g need i m).1 ≠ 0 → ∃ k : Nat, (scanC ts g need i m).2 = k ∧ i ≤ k ∧ k < i + m ∧ need < (thAt ts k).need ∧ (scanC ts g need i m).1 = g k
  | 0, h => absurd rfl h
  | m + 1, h => by
    unfold scanC stpC at *
    split at h
    · rename_i hc
      rw [if_pos hc]
      exact ⟨i + m, rfl, by omega, by omega, hc.1, rfl⟩
    · rename_i hc
      rw [if_neg hc]
      obtain ⟨k, h1, h2, h3, h4⟩ := scanC_hit need i m h
      exact ⟨k, h1, h2, by omega, h4⟩
theorem scanC_congr {ts : List Th} {g f : Nat → Int} (need : Int) (i : Nat) : ∀ m, (∀ k, i ≤ k → k < i + m → g k = f k) → scanC ts g need i m = scanC ts f need i m
  | 0, _ => rfl
  | m + 1, h => by
    unfold scanC
    rw [scanC_congr need i m (fun k h1 h2 => h k h1 (by omega))]
    unfold stpC
    rw [h (i + m) (by omega) (by omega)]
/-- how many things a climb has that begins with one: from the last ones on -/
def lngT (ts : List Th) (n : Nat) : Nat → Nat → Int
  | 0 => fun _ => 0
  | m + 1 => fun k => if k = n - (m + 1) then (scanC ts (lngT ts n m) (thAt ts (n - (m + 1) : Nat)).need (n - (m + 1) + 1) m).1 + 1 else lngT ts n m k
/-- of all -/
def lng (ts : List Th) : Nat → Int := lngT ts ts.length ts.length
theorem lngT_bd (ts : List Th) (n : Nat) : ∀ m, ∀ k, 0 ≤ lngT ts n m k ∧ lngT ts n m k ≤ m
  | 0, k => by simp [lngT]
  | m + 1, k => by
    have ih := lngT_bd ts n m
    unfold lngT
    split
    · have := scanC_bd (ts := ts) (g := lngT ts n m) (B := m) (fun k => (ih k).2) (by omega) (thAt ts (n - (m + 1) : Nat)).need (n - (m + 1) + 1) m
      omega
    · have := ih k; omega
theorem lngT_zero (ts : List Th) (n : Nat) : ∀ m k, k < n - m → lngT ts n m k = 0
  | 0, k, _ => rfl
  | m + 1, k, h => by
    unfold lngT
    rw [if_neg (by omega)]
    exact lngT_zero ts n m k (by omega)
/-- the climb from a thing on -/
def clmF (ts : List Th) (g : Nat → Int) (n : Nat) : Nat → Nat → Int → List Int
  | 0, _, _ => []
  | f + 1, i, need => if (scanC ts g need i (n - i)).1 = 0 then [] else (scanC ts g need i (n - i)).2 :: clmF ts g n f ((scanC ts g need i (n - i)).2.toNat + 1) (thAt ts (scanC ts g need i (n - i)).2).need
def climbL (ts : List Th) : List Int := clmF ts (lng ts) ts.length (ts.length + 1) 0 (-1)
theorem clmF_more (ts : List Th) (g : Nat → Int) (n : Nat) : ∀ (f f' i : Nat) (need : Int), n + 1 ≤ i + f → n + 1 ≤ i + f' → i ≤ n → clmF ts g n f i need = clmF ts g n f' i need
  | 0, f', i, need, h, _, h3 => by omega
  | f + 1, 0, i, need, _, h, h3 => by omega
  | f + 1, f' + 1, i, need, h1, h2, h3 => by
    unfold clmF
    by_cases h : (scanC ts g need i (n - i)).1 = 0
    · rw [if_pos h, if_pos h]
    · rw [if_neg h, if_neg h]
      obtain ⟨k, e, hk1, hk2, -⟩ := scanC_hit need i (n - i) h
      rw [e]
      rw [Int.toNat_natCast, clmF_more ts g n f f' (k + 1) _ (by omega) (by omega) (by omega)]
/-- (the fuel is at hand) -/
def clm (ts : List Th) (g : Nat → Int) (i : Nat) (need : Int) : List Int := clmF ts g ts.length (ts.length + 1) i need
theorem clm_end {ts : List Th} {g : Nat → Int} {i : Nat} {need : Int} (h : (scanC ts g need i (ts.length - i)).1 = 0) : clm ts g i need = [] := by
  unfold clm clmF; rw [if_pos h]
theorem clm_step {ts : List Th} {g : Nat → Int} {i k : Nat} {need : Int} (hi : i ≤ ts.length) (h : (scanC ts g need i (ts.length - i)).1 ≠ 0) (e : (scanC ts g need i (ts.length - i)).2 = k) : clm ts g i need = (k : Int) :: clm ts g (k + 1) (thAt ts k).need := by
  obtain ⟨k', e', hk1, hk2, -⟩ := scanC_hit need i _ h
  have hkk : k' = k := by omega
  subst hkk
  show clmF ts g ts.length (ts.length + 1) i need = _
  unfold clmF
  rw [if_neg h, e, Int.toNat_natCast]
  unfold clm
  rw [clmF_more ts g ts.length ts.length (ts.length + 1) (k' + 1) _ (by omega) (by omega) (by omega)]
end Go.Wg

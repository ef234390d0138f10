/- Plain: the document's longest climb is the program's. -/
import Derived.Test.YtbpmfaibcibleaaClbP
namespace Go.Wg
open Go.Pl
/-- is the first of two rows of one length the lesser? -/
def lexB : List Int → List Int → Bool
  | x :: a, y :: b => if x = y then lexB a b else decide (x < y)
  | _, _ => false
/-- is a climb better than another? -/
def befB (a b : List Int) : Bool := if a.length = b.length then lexB a b else decide (b.length < a.length)
theorem lexB_pre (p a b : List Int) : lexB (p ++ a) (p ++ b) = lexB a b := by
  induction p with
  | nil => rfl
  | cons x p ih => simp only [List.cons_append, lexB, if_true, ih]
theorem befB_pre (p a b : List Int) : befB (p ++ a) (p ++ b) = befB a b := by
  unfold befB
  rw [lexB_pre]
  simp only [List.length_append]
  by_cases h : a.length = b.length
  · rw [if_pos (by omega), if_pos h]
  · rw [if_neg (by omega), if_neg h]
    exact decide_eq_decide.2 (by omega)
/-- one more thing: a climb that goes on with it -/
def rstep (ts : List Th) (f : List Int → Nat → Int → List Int) (now : List Int) (need : Int) (k : Nat) (best : List Int) : List Int :=
  if need < (thAt ts k).need then (if befB (f (now ++ [(k : Int)]) (k + 1) (thAt ts k).need) best then f (now ++ [(k : Int)]) (k + 1) (thAt ts k).need else best) else best
/-- m things from i on -/
def rfold (ts : List Th) (f : List Int → Nat → Int → List Int) (now : List Int) (need : Int) (i : Nat) : Nat → List Int
  | 0 => now
  | m + 1 => rstep ts f now need (i + m) (rfold ts f now need i m)
/-- the longest climb behind another one, from i on, as the program goes -/
def clmL (ts : List Th) (now : List Int) (i : Nat) (need : Int) : List Int := now ++ clm ts (lng ts) i need
theorem lngT_stay (ts : List Th) (n : Nat) : ∀ m d k, n - m ≤ k → k < n → m + d ≤ n → lngT ts n (m + d) k = lngT ts n m k
  | _, 0, _, _, _, _ => rfl
  | m, d + 1, k, h1, h2, h3 => by
    have ih := lngT_stay ts n m d k h1 h2 (by omega)
    show (if k = n - (m + d + 1) then _ else lngT ts n (m + d) k) = _
    rw [if_neg (by omega)]
    exact ih
theorem lng_eq {ts : List Th} {k : Nat} (hk : k < ts.length) : lng ts k = (scanC ts (lng ts) (thAt ts k).need (k + 1) (ts.length - (k + 1))).1 + 1 := by
  obtain ⟨m, hm⟩ : ∃ m, ts.length = k + 1 + m := ⟨ts.length - (k + 1), by omega⟩
  have e1 : lng ts k = lngT ts ts.length (m + 1) k := by
    have h := lngT_stay ts ts.length (m + 1) k k (by omega) hk (by omega)
    rw [show m + 1 + k = ts.length by omega] at h
    exact h
  rw [e1]
  have hk2 : ts.length - (m + 1) = k := by omega
  have hm2 : ts.length - (k + 1) = m := by omega
  conv => lhs; unfold lngT
  rw [hk2, if_pos rfl, hm2]
  rw [scanC_congr (g := lngT ts ts.length m) (f := lng ts) _ (k + 1) m (fun j h1 h2 => by
    have h := lngT_stay ts ts.length m (k + 1) j (by omega) (by omega) (by omega)
    rw [show m + (k + 1) = ts.length by omega] at h
    exact h.symm)]
theorem clm_len (ts : List Th) : ∀ (d i : Nat) (need : Int), i + d = ts.length → ((clm ts (lng ts) i need).length : Int) = (scanC ts (lng ts) need i (ts.length - i)).1
  | d, i, need, h => by
    by_cases h0 : (scanC ts (lng ts) need i (ts.length - i)).1 = 0
    · rw [clm_end h0, h0]; rfl
    · obtain ⟨k, e, h1, h2, h3, h4⟩ := scanC_hit need i _ h0
      rw [clm_step (by omega) h0 e, h4, lng_eq (by omega)]
      have ih := clm_len ts (ts.length - (k + 1)) (k + 1) (thAt ts k).need (by omega)
      rw [← ih]
      simp
termination_by d => d
decreasing_by omega
theorem clm_none (ts : List Th) (need : Int) : clm ts (lng ts) ts.length need = [] := clm_end (by rw [Nat.sub_self]; rfl)
/-- behind m things the best climb is the one behind the best of them -/
def bestAt (ts : List Th) (now : List Int) (r : Int × Int) : List Int := if r.1 = 0 then now else now ++ r.2 :: clm ts (lng ts) (r.2.toNat + 1) (thAt ts r.2).need
theorem rfold_eq (ts : List Th) (now : List Int) (need : Int) (i : Nat) : ∀ m, i + m ≤ ts.length → rfold ts (clmL ts) now need i m = bestAt ts now (scanC ts (lng ts) need i m)
  | 0, _ => rfl
  | m + 1, h => by
    have ih := rfold_eq ts now need i m (by omega)
    unfold rfold rstep
    rw [ih]
    conv => rhs; unfold scanC stpC
    by_cases hn : need < (thAt ts (i + m : Nat)).need
    · rw [if_pos hn]
      have hl : lng ts (i + m) = ((clm ts (lng ts) (i + m + 1) (thAt ts (i + m : Nat)).need).length : Int) + 1 := by
        rw [lng_eq (by omega), clm_len ts (ts.length - (i + m + 1)) (i + m + 1) _ (by omega)]
      have hx : clmL ts (now ++ [((i + m : Nat) : Int)]) (i + m + 1) (thAt ts (i + m : Nat)).need = now ++ ((i + m : Nat) : Int) :: clm ts (lng ts) (i + m + 1) (thAt ts (i + m : Nat)).need := by
        unfold clmL; rw [List.append_assoc]; rfl
      rw [hx]
      have hb : befB (now ++ ((i + m : Nat) : Int) :: clm ts (lng ts) (i + m + 1) (thAt ts (i + m : Nat)).need) (bestAt ts now (scanC ts (lng ts) need i m)) = decide ((scanC ts (lng ts) need i m).1 < lng ts (i + m)) := by
        unfold bestAt
        by_cases h0 : (scanC ts (lng ts) need i m).1 = 0
        · rw [if_pos h0, h0]
          have e : befB (now ++ ((i + m : Nat) : Int) :: clm ts (lng ts) (i + m + 1) (thAt ts (i + m : Nat)).need) (now ++ []) = true := by
            rw [befB_pre]; unfold befB; rw [if_neg (by simp)]; simp
          rw [List.append_nil] at e
          rw [e, hl]
          symm; rw [decide_eq_true_eq]; omega
        · rw [if_neg h0, befB_pre]
          obtain ⟨k, e, h1, h2, h3, h4⟩ := scanC_hit need i m h0
          rw [e, Int.toNat_natCast]
          have hlk : lng ts k = ((clm ts (lng ts) (k + 1) (thAt ts k).need).length : Int) + 1 := by
            rw [lng_eq (by omega), clm_len ts (ts.length - (k + 1)) (k + 1) _ (by omega)]
          unfold befB
          rw [h4, hl, hlk]
          simp only [List.length_cons]
          by_cases hq : (clm ts (lng ts) (i + m + 1) (thAt ts (i + m : Nat)).need).length = (clm ts (lng ts) (k + 1) (thAt ts k).need).length
          · rw [if_pos (by omega), hq]
            unfold lexB
            rw [if_neg (by omega)]
            rw [decide_eq_decide]; omega
          · rw [if_neg (by omega)]
            rw [decide_eq_decide]; omega
      rw [hb]
      by_cases hc : (scanC ts (lng ts) need i m).1 < lng ts (i + m)
      · rw [if_pos (by simpa using hc), if_pos ⟨hn, hc⟩]
        unfold bestAt
        have : lng ts (i + m) ≠ 0 := by omega
        simp only
        rw [if_neg this, Int.toNat_natCast]
      · rw [if_neg (by simpa using hc), if_neg (fun h => hc h.2)]
    · rw [if_neg hn, if_neg (fun h => hn h.1)]
theorem clmL_fold (ts : List Th) (now : List Int) (i : Nat) (need : Int) (hi : i ≤ ts.length) : rfold ts (clmL ts) now need i (ts.length - i) = clmL ts now i need := by
  rw [rfold_eq ts now need i _ (by omega)]
  unfold bestAt clmL
  by_cases h0 : (scanC ts (lng ts) need i (ts.length - i)).1 = 0
  · rw [if_pos h0, clm_end h0, List.append_nil]
  · rw [if_neg h0]
    obtain ⟨k, e, h1, h2, h3, h4⟩ := scanC_hit need i _ h0
    rw [clm_step hi h0 e, e, Int.toNat_natCast]
/-- is a list a climb? -/
def isClimb (ts : List Th) : List Int → Int → Int → Bool
  | [], _, _ => true
  | x :: r, last, need => decide (0 ≤ x ∧ x < (ts.length : Int)) && decide (last < x) && decide (need < (thAt ts x).need) && isClimb ts r x (thAt ts x).need
end Go.Wg

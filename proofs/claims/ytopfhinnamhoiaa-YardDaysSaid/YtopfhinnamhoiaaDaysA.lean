/- Walk: the references of YardDays. -/
import Derived.Test.YtopfhinnamhoiaaWakeB
namespace Go.Proofs.Ytopfhinnamhoiaa
open Go.RowKit Go.Bs Go.Yd Go.Pl Go.Sort

theorem In_any (n lo hi : Int) (w : World) :
    Calls Try.prog 27 #[.int .i64 n, .int .i64 lo, .int .i64 hi] w fun e w' => e = .returned (.bool (decide (lo ≤ n ∧ n ≤ hi))) ∧ w = w' := by
  generalize hres : decide (lo ≤ n ∧ n ≤ hi) = res
  have Hres := Lib.hid hres
  clear hres
  by_cases h : lo ≤ n
  · go_enter Try.func27, Try.ntmps27
    go_wp2
    go_ret
    exact ⟨ret_congr (bool_congr (by rw [← Hres.out]; simp [h])), rfl⟩
  · go_enter Try.func27, Try.ntmps27
    go_wp2
    go_ret
    exact ⟨ret_congr (bool_congr (by rw [← Hres.out]; simp; omega)), rfl⟩
theorem In_t {n lo hi : Int} (h : lo ≤ n ∧ n ≤ hi) (w : World) :
    Calls Try.prog 27 #[.int .i64 n, .int .i64 lo, .int .i64 hi] w fun e w' => e = .returned (.bool true) ∧ w = w' := by
  have := In_any n lo hi w
  rwa [decide_eq_true h] at this
theorem In_f {n lo hi : Int} (h : ¬ (lo ≤ n ∧ n ≤ hi)) (w : World) :
    Calls Try.prog 27 #[.int .i64 n, .int .i64 lo, .int .i64 hi] w fun e w' => e = .returned (.bool false) ∧ w = w' := by
  have := In_any n lo hi w
  rwa [decide_eq_false h] at this

theorem RightRule_any (d k : Int) (w : World) :
    Calls Try.prog 20 #[.agg #[.int .i64 d, .int .i64 k]] w fun e w' => e = .returned (.bool (ruleB d k)) ∧ Below w.heap.size w w' := by
  have hb0 := ext_alloc w (.cells #[.int .i64 d, .int .i64 k] 23)
  unfold ruleB
  by_cases h1 : 0 ≤ d ∧ d ≤ 1440
  · rw [decide_eq_true h1, Bool.true_and]
    generalize hres : decide (0 ≤ k ∧ k ≤ 10080) = res
    have C1 := Lib.hid (In_t h1)
    have Hres := Lib.hid hres
    clear h1 hres
    go_enter Try.func20, Try.ntmps20
    go_wp2_with fail
    refine (C1.out _).mono ?_; rintro e w1 ⟨rfl, rfl⟩
    go_wp2_with fail
    refine (In_any _ _ _ _).mono ?_; rintro e w1 ⟨rfl, rfl⟩
    rw [Hres.out]
    go_wp2
    go_ret
    exact ⟨rfl, hb0⟩
  · rw [decide_eq_false h1, Bool.false_and]
    have C1 := Lib.hid (In_f h1)
    clear h1
    go_enter Try.func20, Try.ntmps20
    go_wp2_with fail
    refine (C1.out _).mono ?_; rintro e w1 ⟨rfl, rfl⟩
    go_wp2
    go_ret
    exact ⟨rfl, hb0⟩

def btwB (hi : Int) (l : List Int) : Bool := l.all fun x => decide (0 ≤ x ∧ x ≤ hi)
set_option maxRecDepth 100000 in
theorem Between_any (A : Option Addr) (n c : Nat) (hi : Int) (l : List Int) (w : World) (hn : l.length = n) (hm : n ≤ 1000000000) (hd : Cells w A 1 encI l) :
    Calls Try.prog 21 #[.slice A n c, .int .i64 hi] w fun e w' => e = .returned (.bool (btwB hi l)) ∧ Below w.heap.size w w' := by
  generalize hres : btwB hi l = res
  have Hres := Lib.hid hres
  clear hres
  go_enter Try.func21, Try.ntmps21
  go_wp2
  go_loopw [5] (fun x wr => ∃ k : Nat, x = .int .i64 k ∧ k ≤ n ∧ Hid (btwB hi (l.drop k) = res) ∧ Below w.heap.size w wr) (fun x _ => n - (intOf x).toNat)
  case atStart => exact ⟨0, rfl, by omega, Lib.hid (by simpa using Hres.out), Below.refl _ _⟩
  case round =>
    obtain ⟨k, rfl, hk, Hk, hb⟩ := hrel
    by_cases hlt : k < n
    · have hlt' : (k : Int) < n := by omega
      have hk0 : (0 : Int) ≤ k := by omega
      have k1 : k < l.length := by rw [hn]; exact hlt
      obtain ⟨b1, o1, rfl, -, d1⟩ := (hd.ext hb).at1 k1 rfl
      have hst : btwB hi (l.drop k) = (decide (0 ≤ l[k] ∧ l[k] ≤ hi) && btwB hi (l.drop (k + 1))) := by rw [List.drop_eq_getElem_cons k1]; rfl
      have Hst := Lib.hid hst
      clear hst
      generalize l[k] = x at *
      by_cases hx : 0 ≤ x ∧ x ≤ hi
      · have C1 := Lib.hid (In_t hx)
        have Hn := Lib.hid (show btwB hi (l.drop (k + 1)) = res by rw [← Hk.out, Hst.out, decide_eq_true hx, Bool.true_and])
        clear hx
        go_wp2_with fail
        refine (C1.out _).mono ?_; rintro e w1 ⟨rfl, rfl⟩
        go_wp2
        go_roundw
        case rel => exact ⟨k + 1, by go_num, by omega, Hn, hb⟩
        case measure => simp [intOf]; omega
      · have C1 := Lib.hid (In_f hx)
        have Hr := Lib.hid (show res = false by rw [← Hk.out, Hst.out, decide_eq_false hx, Bool.false_and])
        clear hx
        go_wp2_with fail
        refine (C1.out _).mono ?_; rintro e w1 ⟨rfl, rfl⟩
        go_wp2
        go_ret
        exact ⟨ret_congr (bool_congr Hr.out.symm), hb⟩
    · obtain rfl : k = n := by omega
      have Hr := Lib.hid (show res = true by rw [← Hk.out, List.drop_of_length_le (by omega)]; rfl)
      go_wp2
      go_ret
      exact ⟨ret_congr (bool_congr Hr.out.symm), hb⟩
end Go.Proofs.Ytopfhinnamhoiaa

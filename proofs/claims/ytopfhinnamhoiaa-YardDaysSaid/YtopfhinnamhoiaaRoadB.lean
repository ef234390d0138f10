/- Walks: whether a road is valid. -/
import Derived.Test.YtopfhinnamhoiaaAllA
import Derived.Test.YtopfhinnamhoiaaRoadA
namespace Go.Proofs.Ytopfhinnamhoiaa
open Go.RowKit Go.Bs Go.Yd Go.Pl Go.Sort

theorem mkt_ok (l : List Mkt) (w : World) : PredB Try.prog 114 #[] Mkt.val mktB w l := by
  intro W x hx hb
  show Calls Try.prog 114 #[.agg #[.int .i64 x.need, .int .i64 x.price, .int .i64 x.trip, .bool x.opn]] W fun e w' => e = .returned (.bool (mktB x)) ∧ Below W.heap.size W w'
  have hb0 := ext_alloc W (.cells #[.int .i64 x.need, .int .i64 x.price, .int .i64 x.trip, .bool x.opn] 123)
  by_cases h1 : 0 ≤ x.need ∧ x.need ≤ 10000
  · by_cases h2 : 0 ≤ x.price ∧ x.price ≤ 1000
    · by_cases h3 : 0 ≤ x.trip ∧ x.trip ≤ 100000
      · rw [show mktB x = true by unfold mktB; rw [decide_eq_true h1, decide_eq_true h2, decide_eq_true h3]; rfl]
        have C1 := Lib.hid (within_t h1)
        have C2 := Lib.hid (within_t h2)
        have C3 := Lib.hid (within_t h3)
        clear h1 h2 h3 hx
        go_enter Try.func114, Try.ntmps114
        go_wp2_with fail
        refine (C1.out _).mono ?_; rintro e w1 ⟨rfl, rfl⟩
        go_wp2_with fail
        refine (C2.out _).mono ?_; rintro e w1 ⟨rfl, rfl⟩
        go_wp2_with fail
        refine (C3.out _).mono ?_; rintro e w1 ⟨rfl, rfl⟩
        go_wp2
        go_ret
        exact ⟨rfl, hb0⟩
      · rw [show mktB x = false by unfold mktB; rw [decide_eq_true h1, decide_eq_true h2, decide_eq_false h3]; rfl]
        have C1 := Lib.hid (within_t h1)
        have C2 := Lib.hid (within_t h2)
        have C3 := Lib.hid (within_f h3)
        clear h1 h2 h3 hx
        go_enter Try.func114, Try.ntmps114
        go_wp2_with fail
        refine (C1.out _).mono ?_; rintro e w1 ⟨rfl, rfl⟩
        go_wp2_with fail
        refine (C2.out _).mono ?_; rintro e w1 ⟨rfl, rfl⟩
        go_wp2_with fail
        refine (C3.out _).mono ?_; rintro e w1 ⟨rfl, rfl⟩
        go_wp2
        go_ret
        exact ⟨rfl, hb0⟩
    · rw [show mktB x = false by unfold mktB; rw [decide_eq_true h1, decide_eq_false h2]; rfl]
      have C1 := Lib.hid (within_t h1)
      have C2 := Lib.hid (within_f h2)
      clear h1 h2 hx
      go_enter Try.func114, Try.ntmps114
      go_wp2_with fail
      refine (C1.out _).mono ?_; rintro e w1 ⟨rfl, rfl⟩
      go_wp2_with fail
      refine (C2.out _).mono ?_; rintro e w1 ⟨rfl, rfl⟩
      go_wp2
      go_ret
      exact ⟨rfl, hb0⟩
  · rw [show mktB x = false by unfold mktB; rw [decide_eq_false h1]; rfl]
    have C1 := Lib.hid (within_f h1)
    clear h1 hx
    go_enter Try.func114, Try.ntmps114
    go_wp2_with fail
    refine (C1.out _).mono ?_; rintro e w1 ⟨rfl, rfl⟩
    go_wp2
    go_ret
    exact ⟨rfl, hb0⟩

theorem rvalid_any (r : Rd) (A : Option Addr) (n cap : Nat) (w : World) (hn : r.days.length = n) (hm : n ≤ 9223372036854775807) (hd : RdAt w A r) :
    Calls Try.prog 87 #[.agg #[.slice A n cap, .int .i64 r.keep]] w fun e w' => e = .returned (.bool r.okB) ∧ Below w.heap.size w w' := by
  have hb0 := ext_alloc w (.cells #[.slice A n cap, .int .i64 r.keep] 92)
  have C3 := Lib.hid (all_mkt 114 #[] mktB A n cap r.days _ (enters_of Try.func114 (by kernel_rfl) rfl) hn hm (hd.ext hb0) (mkt_ok r.days _))
  unfold Rd.okB
  rw [hn]
  generalize r.days.all mktB = q at *
  clear hd hn
  by_cases h1 : (1 : Int) ≤ n ∧ (n : Int) ≤ 30
  · rw [decide_eq_true h1]
    by_cases h2 : 1 ≤ r.keep ∧ r.keep ≤ 10
    · rw [decide_eq_true h2]
      have C1 := Lib.hid (within_t h1)
      have C2 := Lib.hid (within_t h2)
      clear h1 h2
      go_enter Try.func87, Try.ntmps87
      go_wp2_with fail
      refine (C1.out _).mono ?_; rintro e w1 ⟨rfl, rfl⟩
      go_wp2_with fail
      refine (C2.out _).mono ?_; rintro e w1 ⟨rfl, rfl⟩
      go_wp2_with fail
      refine C3.out.mono ?_; rintro e w1 ⟨rfl, hb1⟩
      go_wp2
      go_ret
      exact ⟨rfl, ext_trans hb0 hb1⟩
    · rw [decide_eq_false h2]
      have C1 := Lib.hid (within_t h1)
      have C2 := Lib.hid (within_f h2)
      clear h1 h2
      go_enter Try.func87, Try.ntmps87
      go_wp2_with fail
      refine (C1.out _).mono ?_; rintro e w1 ⟨rfl, rfl⟩
      go_wp2_with fail
      refine (C2.out _).mono ?_; rintro e w1 ⟨rfl, rfl⟩
      go_wp2
      go_ret
      exact ⟨rfl, hb0⟩
  · rw [decide_eq_false h1]
    have C1 := Lib.hid (within_f h1)
    clear h1
    go_enter Try.func87, Try.ntmps87
    go_wp2_with fail
    refine (C1.out _).mono ?_; rintro e w1 ⟨rfl, rfl⟩
    go_wp2
    go_ret
    exact ⟨rfl, hb0⟩
end Go.Proofs.Ytopfhinnamhoiaa

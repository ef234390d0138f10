/- The law WagonTrips: its walk. (Printed by mk_trqa.py.) -/
import Derived.Test.YtbpmfaibcibleaaAwkB
namespace Go.Proofs.Ytbpmfaibcibleaa
open Go.RowKit Go.Bs Go.Wg Go.Pl Go.Sort
theorem ru_parts {a b c d : Int} (h : (btw a 1 24 && btw b 1 a && btw c 0 8 && btw d 0 24) = true) : (1 ≤ a ∧ a ≤ 24) ∧ (1 ≤ b ∧ b ≤ a) ∧ (0 ≤ c ∧ c ≤ 8) ∧ 0 ≤ d ∧ d ≤ 24 := by
  simp only [btw, Bool.and_eq_true, decide_eq_true_eq] at h
  omega
set_option maxRecDepth 100000 in
set_option maxHeartbeats 4000000 in
theorem trips_law (a b c d n : Int) (w : World) :
    Calls Try.prog 3 #[.agg #[.int .i64 a, .int .i64 b, .int .i64 c, .int .i64 d], .int .i64 n] w fun e w' => e = .returned (.bool true) ∧ Below w.heap.size w w' := by
  have V := Lib.hid (fun W => ruright4 a b c d W)
  have T := Lib.hid (fun W => Trip_any a b c d n W)
  have I := Lib.hid (fun W => In_any n 0 200 W)
  cases hv : (btw a 1 24 && btw b 1 a && btw c 0 8 && btw d 0 24)
  case false =>
    rw [show tripR a b c d n = (0, 1) by unfold tripR; rw [hv]; rfl] at T
    rw [hv] at V
    clear hv I
    have hb := ext_alloc w (.cells #[.int .i64 a, .int .i64 b, .int .i64 c, .int .i64 d] 23)
    have hP := Blk.new w 23 [.int .i64 a, .int .i64 b, .int .i64 c, .int .i64 d]
    go_enter Try.func3, Try.ntmps3
    go_upto_region 1 with fail
    change Blk (w.alloc (.cells #[.int .i64 a, .int .i64 b, .int .i64 c, .int .i64 d] 23)) _ _ _ at hP
    generalize w.alloc (.cells #[.int .i64 a, .int .i64 b, .int .i64 c, .int .i64 d] 23) = W0 at *
    have q0 : W0.cell? ⟨w.heap.size, 0, none⟩ = _ := hP.cell rfl
    have q1 : W0.cell? ⟨w.heap.size, 1, none⟩ = _ := hP.cell rfl
    have q2 : W0.cell? ⟨w.heap.size, 2, none⟩ = _ := hP.cell rfl
    have q3 : W0.cell? ⟨w.heap.size, 3, none⟩ = _ := hP.cell rfl
    go_wp2_with fail
    refine (rules_any a b c d _).mono ?_; rintro e W1 ⟨rfl, hx⟩
    replace hP := hP.ext hx
    replace hb := ext_trans hb hx
    clear hx
    clear q0 q1 q2 q3
    have q0 : W1.cell? ⟨w.heap.size, 0, none⟩ = _ := hP.cell rfl
    have q1 : W1.cell? ⟨w.heap.size, 1, none⟩ = _ := hP.cell rfl
    have q2 : W1.cell? ⟨w.heap.size, 2, none⟩ = _ := hP.cell rfl
    have q3 : W1.cell? ⟨w.heap.size, 3, none⟩ = _ := hP.cell rfl
    go_wp2_with fail
    refine (T.out _).mono ?_; rintro e W2 ⟨rfl, hx⟩
    replace hP := hP.ext hx
    replace hb := ext_trans hb hx
    clear hx
    clear q0 q1 q2 q3
    have q0 : W2.cell? ⟨w.heap.size, 0, none⟩ = _ := hP.cell rfl
    have q1 : W2.cell? ⟨w.heap.size, 1, none⟩ = _ := hP.cell rfl
    have q2 : W2.cell? ⟨w.heap.size, 2, none⟩ = _ := hP.cell rfl
    have q3 : W2.cell? ⟨w.heap.size, 3, none⟩ = _ := hP.cell rfl
    go_wp2_with fail
    refine (V.out _).mono ?_; rintro e W3 ⟨rfl, hx⟩
    replace hP := hP.ext hx
    replace hb := ext_trans hb hx
    clear hx
    clear q0 q1 q2 q3
    have q0 : W3.cell? ⟨w.heap.size, 0, none⟩ = _ := hP.cell rfl
    have q1 : W3.cell? ⟨w.heap.size, 1, none⟩ = _ := hP.cell rfl
    have q2 : W3.cell? ⟨w.heap.size, 2, none⟩ = _ := hP.cell rfl
    have q3 : W3.cell? ⟨w.heap.size, 3, none⟩ = _ := hP.cell rfl
    clear q0 q1 q2 q3
    go_wp2_with fail
    refine (awake_any _).mono ?_; rintro e W4 ⟨rfl, hx⟩
    replace hb := ext_trans hb hx
    clear hx
    go_wp2
    go_ret
    exact ⟨rfl, hb⟩
  case true =>
    rw [hv] at V
    cases hn : btw n 0 200
    · rw [show tripR a b c d n = (0, 2) by unfold tripR; rw [hv, hn]; rfl] at T
      rw [hn] at I
      clear hv hn
      have hb := ext_alloc w (.cells #[.int .i64 a, .int .i64 b, .int .i64 c, .int .i64 d] 23)
      have hP := Blk.new w 23 [.int .i64 a, .int .i64 b, .int .i64 c, .int .i64 d]
      go_enter Try.func3, Try.ntmps3
      go_upto_region 1 with fail
      change Blk (w.alloc (.cells #[.int .i64 a, .int .i64 b, .int .i64 c, .int .i64 d] 23)) _ _ _ at hP
      generalize w.alloc (.cells #[.int .i64 a, .int .i64 b, .int .i64 c, .int .i64 d] 23) = W0 at *
      have q0 : W0.cell? ⟨w.heap.size, 0, none⟩ = _ := hP.cell rfl
      have q1 : W0.cell? ⟨w.heap.size, 1, none⟩ = _ := hP.cell rfl
      have q2 : W0.cell? ⟨w.heap.size, 2, none⟩ = _ := hP.cell rfl
      have q3 : W0.cell? ⟨w.heap.size, 3, none⟩ = _ := hP.cell rfl
      go_wp2_with fail
      refine (rules_any a b c d _).mono ?_; rintro e W1 ⟨rfl, hx⟩
      replace hP := hP.ext hx
      replace hb := ext_trans hb hx
      clear hx
      clear q0 q1 q2 q3
      have q0 : W1.cell? ⟨w.heap.size, 0, none⟩ = _ := hP.cell rfl
      have q1 : W1.cell? ⟨w.heap.size, 1, none⟩ = _ := hP.cell rfl
      have q2 : W1.cell? ⟨w.heap.size, 2, none⟩ = _ := hP.cell rfl
      have q3 : W1.cell? ⟨w.heap.size, 3, none⟩ = _ := hP.cell rfl
      go_wp2_with fail
      refine (T.out _).mono ?_; rintro e W2 ⟨rfl, hx⟩
      replace hP := hP.ext hx
      replace hb := ext_trans hb hx
      clear hx
      clear q0 q1 q2 q3
      have q0 : W2.cell? ⟨w.heap.size, 0, none⟩ = _ := hP.cell rfl
      have q1 : W2.cell? ⟨w.heap.size, 1, none⟩ = _ := hP.cell rfl
      have q2 : W2.cell? ⟨w.heap.size, 2, none⟩ = _ := hP.cell rfl
      have q3 : W2.cell? ⟨w.heap.size, 3, none⟩ = _ := hP.cell rfl
      go_wp2_with fail
      refine (V.out _).mono ?_; rintro e W3 ⟨rfl, hx⟩
      replace hP := hP.ext hx
      replace hb := ext_trans hb hx
      clear hx
      clear q0 q1 q2 q3
      have q0 : W3.cell? ⟨w.heap.size, 0, none⟩ = _ := hP.cell rfl
      have q1 : W3.cell? ⟨w.heap.size, 1, none⟩ = _ := hP.cell rfl
      have q2 : W3.cell? ⟨w.heap.size, 2, none⟩ = _ := hP.cell rfl
      have q3 : W3.cell? ⟨w.heap.size, 3, none⟩ = _ := hP.cell rfl
      go_wp2_with fail
      refine (I.out _).mono ?_; rintro e W4 ⟨rfl, rfl⟩
      clear q0 q1 q2 q3
      go_wp2_with fail
      refine (awake_any _).mono ?_; rintro e W4 ⟨rfl, hx⟩
      replace hb := ext_trans hb hx
      clear hx
      go_wp2
      go_ret
      exact ⟨rfl, hb⟩
    · obtain ⟨ha, hb1, hc, hd⟩ := ru_parts hv
      have hn2 : 0 ≤ n ∧ n ≤ 200 := by simpa [btw] using hn
      have R := Lib.hid (fun W => TripR_any a b c d n ha hb1 hc hd hn2 W)
      rw [show tripR a b c d n = (((tim a.toNat b.toNat c.toNat d.toNat n.toNat).1 : Int), 0) by unfold tripR; rw [hv, hn]; rfl] at T
      rw [hn] at I
      clear hv hn ha hb1 hc hd hn2
      generalize ((tim a.toNat b.toNat c.toNat d.toNat n.toNat).1 : Int) = t at *
      have hb := ext_alloc w (.cells #[.int .i64 a, .int .i64 b, .int .i64 c, .int .i64 d] 23)
      have hP := Blk.new w 23 [.int .i64 a, .int .i64 b, .int .i64 c, .int .i64 d]
      go_enter Try.func3, Try.ntmps3
      go_upto_region 1 with fail
      change Blk (w.alloc (.cells #[.int .i64 a, .int .i64 b, .int .i64 c, .int .i64 d] 23)) _ _ _ at hP
      generalize w.alloc (.cells #[.int .i64 a, .int .i64 b, .int .i64 c, .int .i64 d] 23) = W0 at *
      have q0 : W0.cell? ⟨w.heap.size, 0, none⟩ = _ := hP.cell rfl
      have q1 : W0.cell? ⟨w.heap.size, 1, none⟩ = _ := hP.cell rfl
      have q2 : W0.cell? ⟨w.heap.size, 2, none⟩ = _ := hP.cell rfl
      have q3 : W0.cell? ⟨w.heap.size, 3, none⟩ = _ := hP.cell rfl
      go_wp2_with fail
      refine (rules_any a b c d _).mono ?_; rintro e W1 ⟨rfl, hx⟩
      replace hP := hP.ext hx
      replace hb := ext_trans hb hx
      clear hx
      clear q0 q1 q2 q3
      have q0 : W1.cell? ⟨w.heap.size, 0, none⟩ = _ := hP.cell rfl
      have q1 : W1.cell? ⟨w.heap.size, 1, none⟩ = _ := hP.cell rfl
      have q2 : W1.cell? ⟨w.heap.size, 2, none⟩ = _ := hP.cell rfl
      have q3 : W1.cell? ⟨w.heap.size, 3, none⟩ = _ := hP.cell rfl
      go_wp2_with fail
      refine (T.out _).mono ?_; rintro e W2 ⟨rfl, hx⟩
      replace hP := hP.ext hx
      replace hb := ext_trans hb hx
      clear hx
      clear q0 q1 q2 q3
      have q0 : W2.cell? ⟨w.heap.size, 0, none⟩ = _ := hP.cell rfl
      have q1 : W2.cell? ⟨w.heap.size, 1, none⟩ = _ := hP.cell rfl
      have q2 : W2.cell? ⟨w.heap.size, 2, none⟩ = _ := hP.cell rfl
      have q3 : W2.cell? ⟨w.heap.size, 3, none⟩ = _ := hP.cell rfl
      go_wp2_with fail
      refine (V.out _).mono ?_; rintro e W3 ⟨rfl, hx⟩
      replace hP := hP.ext hx
      replace hb := ext_trans hb hx
      clear hx
      clear q0 q1 q2 q3
      have q0 : W3.cell? ⟨w.heap.size, 0, none⟩ = _ := hP.cell rfl
      have q1 : W3.cell? ⟨w.heap.size, 1, none⟩ = _ := hP.cell rfl
      have q2 : W3.cell? ⟨w.heap.size, 2, none⟩ = _ := hP.cell rfl
      have q3 : W3.cell? ⟨w.heap.size, 3, none⟩ = _ := hP.cell rfl
      go_wp2_with fail
      refine (I.out _).mono ?_; rintro e W4 ⟨rfl, rfl⟩
      go_wp2_with fail
      refine (R.out _).mono ?_; rintro e W4 ⟨rfl, hx⟩
      replace hP := hP.ext hx
      replace hb := ext_trans hb hx
      clear hx
      clear q0 q1 q2 q3
      go_wp2_with fail
      refine (awake_any _).mono ?_; rintro e W5 ⟨rfl, hx⟩
      replace hb := ext_trans hb hx
      clear hx
      go_wp2
      go_ret
      exact ⟨rfl, hb⟩
end Go.Proofs.Ytbpmfaibcibleaa

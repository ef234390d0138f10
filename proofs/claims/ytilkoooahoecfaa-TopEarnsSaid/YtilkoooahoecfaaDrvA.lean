/- Walks: wagon.Trip of one set of rules; drives. -/
import Derived.Shelf.Abstract
import Derived.Deep.DeepCutAuto
import Derived.Deep.CutBlock
import Derived.Deep.CutRange
import Derived.Maps.RangeWalk
import Derived.Laws.EntriesVeiled
import Derived.Test.YtilkoooahoecfaaTooA
import Derived.Test.YtilkoooahoecfaaProg
namespace Go.Proofs.Ytilkoooahoecfaa.Er
open Go.RowKit Go.Bs Go.Pl Go.Sort
def btwE (n lo hi : Int) : Bool := decide (lo ≤ n ∧ n ≤ hi)
theorem wwithin_any (n lo hi : Int) (w : World) :
    Calls Try.prog 49 #[.int .i64 n, .int .i64 lo, .int .i64 hi] w fun e w' => e = .returned (.bool (btwE n lo hi)) ∧ w = w' := by
  unfold btwE
  generalize hres : decide (lo ≤ n ∧ n ≤ hi) = res
  have Hres := Lib.hid hres
  clear hres
  by_cases h : lo ≤ n
  · go_enter Try.func49, Try.ntmps49
    go_wp2
    go_ret
    exact ⟨ret_congr (bool_congr (by rw [← Hres.out]; simp [h])), rfl⟩
  · go_enter Try.func49, Try.ntmps49
    go_wp2
    go_ret
    exact ⟨ret_congr (bool_congr (by rw [← Hres.out]; simp; omega)), rfl⟩
theorem wwithin_t {n lo hi : Int} (h : lo ≤ n ∧ n ≤ hi) (w : World) : Calls Try.prog 49 #[.int .i64 n, .int .i64 lo, .int .i64 hi] w fun e w' => e = .returned (.bool true) ∧ w = w' := by
  have := wwithin_any n lo hi w
  rwa [show btwE n lo hi = true from decide_eq_true h] at this
theorem rules_ok (w : World) : Calls Try.prog 48 #[.agg #[.int .i64 8, .int .i64 8, .int .i64 0, .int .i64 16]] w fun e w' => e = .returned (.bool true) ∧ Below w.heap.size w w' := by
  have C1 := Lib.hid (fun V => wwithin_t (show (1 : Int) ≤ 8 ∧ (8 : Int) ≤ 24 by omega) V)
  have C2 := Lib.hid (fun V => wwithin_t (show (1 : Int) ≤ 8 ∧ (8 : Int) ≤ 8 by omega) V)
  have C3 := Lib.hid (fun V => wwithin_t (show (0 : Int) ≤ 0 ∧ (0 : Int) ≤ 8 by omega) V)
  have C4 := Lib.hid (fun V => wwithin_t (show (0 : Int) ≤ 16 ∧ (16 : Int) ≤ 24 by omega) V)
  have hx := ext_alloc w (.cells #[.int .i64 8, .int .i64 8, .int .i64 0, .int .i64 16] 92)
  go_enter Try.func48, Try.ntmps48
  go_wp2_with fail
  refine (C1.out _).mono ?_; rintro e w1 ⟨rfl, rfl⟩
  go_wp2_with fail
  refine (C2.out _).mono ?_; rintro e w1 ⟨rfl, rfl⟩
  go_wp2_with fail
  refine (C3.out _).mono ?_; rintro e w1 ⟨rfl, rfl⟩
  go_wp2_with fail
  refine (C4.out _).mono ?_; rintro e w1 ⟨rfl, rfl⟩
  go_wp2
  go_ret
  exact ⟨rfl, hx⟩
/-- one shift of so many hours without a rest -/
theorem shift_one (n : Int) (w : World) (hn : 1 ≤ n ∧ n ≤ 8) : Calls Try.prog 50 #[.agg #[.int .i64 8, .int .i64 8, .int .i64 0, .int .i64 16], .int .i64 n] w fun e w' => e = .returned (.int .i64 n) ∧ Below w.heap.size w w' := by
  have hB := Blk.new w 92 [.int .i64 8, .int .i64 8, .int .i64 0, .int .i64 16]
  have hx := ext_alloc w (.cells #[.int .i64 8, .int .i64 8, .int .i64 0, .int .i64 16] 92)
  have hn0 : (n == 0) = false := by rw [beq_eq_false_iff_ne]; omega
  have w1 : wrap64 (n - 1) = n - 1 := by unfold wrap64; omega
  have w2 : (n - 1).tdiv 8 = 0 := by rw [Int.tdiv_eq_ediv_of_nonneg (by omega)]; omega
  have w3 : wrap64 n = n := by unfold wrap64; omega
  go_enter Try.func50, Try.ntmps50
  go_upto_region 3 with fail
  change Blk (w.alloc (.cells #[.int .i64 8, .int .i64 8, .int .i64 0, .int .i64 16] 92)) _ _ _ at hB
  generalize w.alloc (.cells #[.int .i64 8, .int .i64 8, .int .i64 0, .int .i64 16] 92) = W1 at *
  clear hn0
  refine Dr.wp_region_plan 11 [] (.q [0, 1, 2, 3, 4, 5, 6, 7, 8, 9, 10] .done) (by kernel_rfl) (by kernel_rfl) ?_
  have hB := hB.drew
  have hx := hx.drew
  generalize World.drew W1 = V at *
  have q0 := Dr.cell0 (hB.cell (i := 1) rfl)
  have q1 := Dr.cell0 (hB.cell (i := 2) rfl)
  with_reducible refine Dr.plan_q (l := [_, _, _, _, _, _, _, _, _, _, _]) (by with_unfolding_all exact rfl) (fun K hK => ?_)
  iterate 11 (go_big_quiet_step (fail))
  refine wpQuiet_nil (hK _ ?_); clear hK K
  refine Dr.plan_end rfl ?_
  go_wp2
  go_ret
  exact ⟨rfl, hx⟩
theorem trip_any (w : World) : Calls Try.prog 24 #[.agg #[.int .i64 8, .int .i64 8, .int .i64 0, .int .i64 16], .int .i64 9] w fun e w' => e = .returned (.tuple #[.int .i64 25, .int .i64 0]) ∧ Below w.heap.size w w' := by
  have hB := Blk.new w 92 [.int .i64 8, .int .i64 8, .int .i64 0, .int .i64 16]
  have hx := ext_alloc w (.cells #[.int .i64 8, .int .i64 8, .int .i64 0, .int .i64 16] 92)
  have C2 := Lib.hid (fun V => wwithin_t (show (0 : Int) ≤ 9 ∧ (9 : Int) ≤ 200 by omega) V)
  go_enter Try.func24, Try.ntmps24
  go_upto_block 0 with fail
  change Blk (w.alloc (.cells #[.int .i64 8, .int .i64 8, .int .i64 0, .int .i64 16] 92)) _ _ _ at hB
  generalize w.alloc (.cells #[.int .i64 8, .int .i64 8, .int .i64 0, .int .i64 16] 92) = W1 at *
  have b0 : W1.cell? ⟨w.heap.size, 0, none⟩ = _ := hB.cell (i := 0) rfl
  have b1 : W1.cell? ⟨w.heap.size, 1, none⟩ = _ := hB.cell (i := 1) rfl
  have b2 : W1.cell? ⟨w.heap.size, 2, none⟩ = _ := hB.cell (i := 2) rfl
  have b3 : W1.cell? ⟨w.heap.size, 3, none⟩ = _ := hB.cell (i := 3) rfl
  go_wp2_with fail
  refine (rules_ok _).mono ?_; rintro e W2 ⟨rfl, hb2⟩
  go_wp2_with fail
  refine (C2.out _).mono ?_; rintro e w1 ⟨rfl, rfl⟩
  clear b0 b1 b2 b3
  have hB2 := hB.ext hb2
  have hx2 := ext_trans hx hb2
  have b0 : W2.cell? ⟨w.heap.size, 0, none⟩ = _ := hB2.cell (i := 0) rfl
  go_upto_region 6 with fail
  clear b0 hB hx hb2
  refine Dr.wp_region_plan 20 [] (.q [0, 1, 2, 3, 5, 6, 9, 10, 11, 12, 13, 14, 15] (.e1 4 (.q [7, 8] (.e1 16 (.q [17, 18, 19] .done))))) (by kernel_rfl) (by kernel_rfl) ?_
  have hB := hB2.drew
  have hx := hx2.drew
  clear hB2 hx2
  generalize World.drew W2 = V at *
  have q0 := Dr.cell0 (hB.cell (i := 0) rfl)
  have q1 := Dr.cell0 (hB.cell (i := 1) rfl)
  have q2 := Dr.cell0 (hB.cell (i := 2) rfl)
  have q3 := Dr.cell0 (hB.cell (i := 3) rfl)
  with_reducible refine Dr.plan_q (l := [_, _, _, _, _, _, _, _, _, _, _, _, _]) (by with_unfolding_all exact rfl) (fun K hK => ?_)
  iterate 13 (go_big_quiet_step (fail))
  refine wpQuiet_nil (hK _ ?_); clear hK K
  clear q0 q1 q2 q3
  refine Dr.plan_e rfl (by rfl) (fun K hK => ?_)
  go_wp2_with fail
  refine (shift_one 8 _ (by omega)).mono ?_; rintro e W3 ⟨rfl, hb3⟩
  refine hK _ _ (.of hb3) ?_; clear hK K
  with_reducible refine Dr.plan_q (l := [_, _]) (by with_unfolding_all exact rfl) (fun K hK => ?_)
  iterate 2 (go_big_quiet_step (fail))
  refine wpQuiet_nil (hK _ ?_); clear hK K
  refine Dr.plan_e rfl (by rfl) (fun K hK => ?_)
  go_wp2_with fail
  refine (shift_one 1 _ (by omega)).mono ?_; rintro e W4 ⟨rfl, hb4⟩
  refine hK _ _ (.of hb4) ?_; clear hK K
  with_reducible refine Dr.plan_q (l := [_, _, _]) (by with_unfolding_all exact rfl) (fun K hK => ?_)
  iterate 3 (go_big_quiet_step (fail))
  refine wpQuiet_nil (hK _ ?_); clear hK K
  refine Dr.plan_end rfl ?_
  go_wp2
  refine bodyPost_ret (v := .tuple #[.int .i64 25, .int .i64 0]) (by simp [results, Try.results24, go_sem]) rfl ?_
  exact ⟨rfl, ext_trans (ext_trans hx hb3) hb4⟩
theorem drives_any (w : World) : Calls Try.prog 8 #[] w fun e w' => e = .returned (.bool true) ∧ Below w.heap.size w w' := by
  go_enter Try.func8, Try.ntmps8
  go_wp2_with fail
  refine (trip_any _).mono ?_; rintro e W2 ⟨rfl, hb⟩
  go_wp2
  go_ret
  exact ⟨rfl, hb⟩
end Go.Proofs.Ytilkoooahoecfaa.Er

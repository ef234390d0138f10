/- Walks: route: the tests of a stop by itself. (Printed by mk_ernx.py.) -/
import Derived.Test.YtilkoooahoecfaaErnW
namespace Go.Proofs.Ytilkoooahoecfaa.Er
open Go.RowKit Go.Bs Go.Pl Go.Sort Go.Er
set_option maxRecDepth 100000 in
set_option maxHeartbeats 1000000 in
theorem test1_any (t : TrV) (l : List StE) (S : Option Addr) (m c i : Nat) (w : World) (hM : TrM w t) (ht : TrOk t) (hS : Cells w S 3 StE.enc l) (hm : l.length = m) (hi : i < m) : Calls Try.prog 82 #[t.val, .slice S m c, .int .i64 i] w (Tst (Played t (l.getD i default)) w) := by
  have hx := ext_alloc w (.cells t.cells.toArray 33)
  have hB := Blk.new w 33 t.cells
  have hM1 := hM.ext hx
  have hil : i < l.length := by omega
  obtain ⟨b, off, rfl, -, c0, c1, c2⟩ := (hS.ext hx).at3 hil rfl
  have Hs := getD_at l hil default
  generalize l[i] = s at *
  rw [Hs]
  clear Hs hS hM
  obtain ⟨a, f, z⟩ := s
  have hi0 : (0 : Int) ≤ (i : Int) := by omega
  have him : (i : Int) < (m : Int) := by omega
  have C := Lib.hid (fun V => played_any t a V ht.n9)
  have HQ := Lib.hid (show btwE a 1 ((t.tw.length : Int) - 1) = true → 1 ≤ a ∧ a ≤ (t.tw.length : Int) - 1 from fun h => of_decide_eq_true h)
  generalize btwE a 1 ((t.tw.length : Int) - 1) = q at *
  clear ht hM1
  unfold TrV.val TrV.cells at *
  go_enter Try.func82, Try.ntmps82
  go_upto_region 1 with fail
  change Blk (w.alloc (.cells #[.int .i64 t.days, .int .i64 t.shift, .int .i64 t.size, .slice t.A t.tw.length t.ca, .slice t.B t.lg.length t.cb] 33)) w.heap.size _ _ at hB
  generalize (w.alloc (.cells #[.int .i64 t.days, .int .i64 t.shift, .int .i64 t.size, .slice t.A t.tw.length t.ca, .slice t.B t.lg.length t.cb] 33)) = W1 at *
  refine Dr.wp_region_plan 9 [] (.q [0, 1, 2, 3, 4, 5] (.e1 6 (.q [7, 8] .done))) (by kernel_rfl) (by kernel_rfl) ?_
  have hbd := hx.drew
  have hBd := hB.drew
  have q0 := Dr.cell0 (cell_ext c0 (ext_drew W1))
  have q1 := Dr.cell0 (cell_ext c1 (ext_drew W1))
  have q2 := Dr.cell0 (cell_ext c2 (ext_drew W1))
  clear c0 c1 c2  hB hx
  generalize World.drew W1 = V at *
  have q3 := Dr.cell0 (hBd.cell (i := 0) rfl)
  have q4 := Dr.cell0 (hBd.cell (i := 1) rfl)
  have q5 := Dr.cell0 (hBd.cell (i := 2) rfl)
  have q6 := Dr.cell0 (hBd.cell (i := 3) rfl)
  have q7 := Dr.cell0 (hBd.cell (i := 4) rfl)
  with_reducible refine Dr.plan_q (l := [_, _, _, _, _, _]) (by with_unfolding_all exact rfl) (fun K hK => ?_)
  iterate 6 (go_big_quiet_step (fail))
  refine wpQuiet_nil (hK _ ?_); clear hK K
  refine Dr.plan_e rfl (by rfl) (fun K hK => ?_)
  go_wp2_with fail
  refine (C.out _).mono ?_; rintro e V1 ⟨rfl, hb1⟩
  refine hK _ _ (.of hb1) ?_; clear hK K
  with_reducible refine Dr.plan_q (l := [_, _]) (by with_unfolding_all exact rfl) (fun K hK => ?_)
  iterate 2 (go_big_quiet_step (fail))
  refine wpQuiet_nil (hK _ ?_); clear hK K
  refine Dr.plan_end rfl ?_
  try go_frame
  all_goals
    go_wp2
    all_goals
      go_ret
      exact Tst.of (ext_trans hbd hb1) fun h => HQ.out (by simpa using h)
set_option maxRecDepth 100000 in
set_option maxHeartbeats 1000000 in
theorem test2_any (t : TrV) (l : List StE) (S : Option Addr) (m c i : Nat) (w : World) (hM : TrM w t) (_ht : TrOk t) (hS : Cells w S 3 StE.enc l) (hm : l.length = m) (hi : i < m) (hp : Played t (l.getD i default)) : Calls Try.prog 83 #[t.val, .slice S m c, .int .i64 i] w (Tst (True) w) := by
  have hx := ext_alloc w (.cells t.cells.toArray 33)
  have hB := Blk.new w 33 t.cells
  have hM1 := hM.ext hx
  have hil : i < l.length := by omega
  obtain ⟨b, off, rfl, -, c0, c1, c2⟩ := (hS.ext hx).at3 hil rfl
  have Hs := getD_at l hil default
  generalize l[i] = s at *
  rw [Hs] at hp
  clear Hs hS hM
  obtain ⟨a, f, z⟩ := s
  have hi0 : (0 : Int) ≤ (i : Int) := by omega
  have him : (i : Int) < (m : Int) := by omega
  obtain ⟨k, hk⟩ : ∃ k : Nat, a = (k : Int) := ⟨a.toNat, by have := hp.1; simp only at this; omega⟩
  subst hk
  have hkt : k < t.tw.length := by have := hp.2; simp only at this; omega
  have hkp : 0 < k := by have := hp.1; simp only at this; omega
  have hk0 : (0 : Int) ≤ (k : Int) := by omega
  have hkn : (k : Int) < (t.tw.length : Int) := by omega
  obtain ⟨b3, off3, hA, hc⟩ := tw_at hM1.tw hkt
  have Htw := getD_at t.tw hkt default
  have hvM := hM1.town _ (List.getElem_mem hkt)
  have r4 := hc 4 _ rfl
  clear hc
  generalize t.tw[k] = v at *
  obtain ⟨⟨opn, slo, shi, pay, lot, rent, riv, cold, cut⟩, O, co, R, cr⟩ := v
  simp only at r4
  have HA := Lib.hid hA
  clear hA
  clear hM1 hvM Htw hp
  unfold TrV.val TrV.cells at *
  go_enter Try.func83, Try.ntmps83
  go_upto_region 1 with fail
  change Blk (w.alloc (.cells #[.int .i64 t.days, .int .i64 t.shift, .int .i64 t.size, .slice t.A t.tw.length t.ca, .slice t.B t.lg.length t.cb] 33)) w.heap.size _ _ at hB
  generalize (w.alloc (.cells #[.int .i64 t.days, .int .i64 t.shift, .int .i64 t.size, .slice t.A t.tw.length t.ca, .slice t.B t.lg.length t.cb] 33)) = W1 at *
  rw [HA.out] at hB ⊢
  refine Dr.wp_region_plan 14 [] (.q [0, 1, 2, 3, 4, 5, 6, 7, 8, 9, 10, 11, 12, 13] .done) (by kernel_rfl) (by kernel_rfl) ?_
  have hbd := hx.drew
  have hBd := hB.drew
  have q0 := Dr.cell0 (cell_ext c0 (ext_drew W1))
  have q1 := Dr.cell0 (cell_ext c1 (ext_drew W1))
  have q2 := Dr.cell0 (cell_ext c2 (ext_drew W1))
  have q3 := Dr.cell0 (cell_ext r4 (ext_drew W1))
  clear c0 c1 c2 r4 hB hx
  generalize World.drew W1 = V at *
  have q4 := Dr.cell0 (hBd.cell (i := 0) rfl)
  have q5 := Dr.cell0 (hBd.cell (i := 1) rfl)
  have q6 := Dr.cell0 (hBd.cell (i := 2) rfl)
  have q7 := Dr.cell0 (hBd.cell (i := 3) rfl)
  have q8 := Dr.cell0 (hBd.cell (i := 4) rfl)
  with_reducible refine Dr.plan_q (l := [_, _, _, _, _, _, _, _, _, _, _, _, _, _]) (by with_unfolding_all exact rfl) (fun K hK => ?_)
  iterate 14 (go_big_quiet_step (fail))
  refine wpQuiet_nil (hK _ ?_); clear hK K
  refine Dr.plan_end rfl ?_
  try go_frame
  all_goals
    go_wp2
    all_goals
      go_ret
      exact Tst.of hbd fun _ => trivial
set_option maxRecDepth 100000 in
set_option maxHeartbeats 1000000 in
theorem test3_any (t : TrV) (l : List StE) (S : Option Addr) (m c i : Nat) (w : World) (hM : TrM w t) (_ht : TrOk t) (hS : Cells w S 3 StE.enc l) (hm : l.length = m) (hi : i < m) (hp : Played t (l.getD i default)) (hn : NearE (l.getD i default)) : Calls Try.prog 84 #[t.val, .slice S m c, .int .i64 i] w (Tst ((l.getD i default).fst ≤ (l.getD i default).lst ∧ (l.getD i default).lst - (l.getD i default).fst ≤ 9) w) := by
  have hx := ext_alloc w (.cells t.cells.toArray 33)
  have hB := Blk.new w 33 t.cells
  have hM1 := hM.ext hx
  have hil : i < l.length := by omega
  obtain ⟨b, off, rfl, -, c0, c1, c2⟩ := (hS.ext hx).at3 hil rfl
  have Hs := getD_at l hil default
  generalize l[i] = s at *
  rw [Hs] at hp hn ⊢
  clear Hs hS hM
  obtain ⟨a, f, z⟩ := s
  have hi0 : (0 : Int) ≤ (i : Int) := by omega
  have him : (i : Int) < (m : Int) := by omega
  obtain ⟨k, hk⟩ : ∃ k : Nat, a = (k : Int) := ⟨a.toNat, by have := hp.1; simp only at this; omega⟩
  subst hk
  have hkt : k < t.tw.length := by have := hp.2; simp only at this; omega
  have hkp : 0 < k := by have := hp.1; simp only at this; omega
  have hk0 : (0 : Int) ≤ (k : Int) := by omega
  have hkn : (k : Int) < (t.tw.length : Int) := by omega
  obtain ⟨b3, off3, hA, hc⟩ := tw_at hM1.tw hkt
  have Htw := getD_at t.tw hkt default
  have hvM := hM1.town _ (List.getElem_mem hkt)
  have r1 := hc 1 _ rfl
  have r2 := hc 2 _ rfl
  clear hc
  generalize t.tw[k] = v at *
  obtain ⟨⟨opn, slo, shi, pay, lot, rent, riv, cold, cut⟩, O, co, R, cr⟩ := v
  simp only at r1 r2
  have HA := Lib.hid hA
  clear hA
  have C := Lib.hid (fun V => fits_any ⟨(k : Int), f, z⟩ slo shi V hn)
  unfold StE.val at C
  simp only at C ⊢
  generalize hP : (f ≤ z ∧ z - f ≤ 9) = P at *
  clear hM1 hvM Htw hp hn hP
  unfold TrV.val TrV.cells at *
  go_enter Try.func84, Try.ntmps84
  go_upto_region 1 with fail
  change Blk (w.alloc (.cells #[.int .i64 t.days, .int .i64 t.shift, .int .i64 t.size, .slice t.A t.tw.length t.ca, .slice t.B t.lg.length t.cb] 33)) w.heap.size _ _ at hB
  generalize (w.alloc (.cells #[.int .i64 t.days, .int .i64 t.shift, .int .i64 t.size, .slice t.A t.tw.length t.ca, .slice t.B t.lg.length t.cb] 33)) = W1 at *
  rw [HA.out] at hB ⊢
  refine Dr.wp_region_plan 17 [] (.q [0, 1, 2, 3, 4, 5, 6, 7, 8, 9, 10, 11, 12, 13] (.e1 14 (.q [15, 16] .done))) (by kernel_rfl) (by kernel_rfl) ?_
  have hbd := hx.drew
  have hBd := hB.drew
  have q0 := Dr.cell0 (cell_ext c0 (ext_drew W1))
  have q1 := Dr.cell0 (cell_ext c1 (ext_drew W1))
  have q2 := Dr.cell0 (cell_ext c2 (ext_drew W1))
  have q3 := Dr.cell0 (cell_ext r1 (ext_drew W1))
  have q4 := Dr.cell0 (cell_ext r2 (ext_drew W1))
  clear c0 c1 c2 r1 r2 hB hx
  generalize World.drew W1 = V at *
  have q5 := Dr.cell0 (hBd.cell (i := 0) rfl)
  have q6 := Dr.cell0 (hBd.cell (i := 1) rfl)
  have q7 := Dr.cell0 (hBd.cell (i := 2) rfl)
  have q8 := Dr.cell0 (hBd.cell (i := 3) rfl)
  have q9 := Dr.cell0 (hBd.cell (i := 4) rfl)
  with_reducible refine Dr.plan_q (l := [_, _, _, _, _, _, _, _, _, _, _, _, _, _]) (by with_unfolding_all exact rfl) (fun K hK => ?_)
  iterate 14 (go_big_quiet_step (fail))
  refine wpQuiet_nil (hK _ ?_); clear hK K
  refine Dr.plan_e rfl (by rfl) (fun K hK => ?_)
  go_wp2_with fail
  refine (C.out _).mono ?_; rintro e V1 ⟨q, rfl, hq, hb1⟩
  refine hK _ _ (.of hb1) ?_; clear hK K
  with_reducible refine Dr.plan_q (l := [_, _]) (by with_unfolding_all exact rfl) (fun K hK => ?_)
  iterate 2 (go_big_quiet_step (fail))
  refine wpQuiet_nil (hK _ ?_); clear hK K
  refine Dr.plan_end rfl ?_
  try go_frame
  all_goals
    go_wp2
    all_goals
      go_ret
      exact Tst.of (ext_trans hbd hb1) fun h => hq (by simpa using h)
set_option maxRecDepth 100000 in
set_option maxHeartbeats 1000000 in
theorem test4_any (t : TrV) (l : List StE) (S : Option Addr) (m c i : Nat) (w : World) (hM : TrM w t) (ht : TrOk t) (hS : Cells w S 3 StE.enc l) (hm : l.length = m) (hi : i < m) (hp : Played t (l.getD i default)) : Calls Try.prog 86 #[t.val, .slice S m c, .int .i64 i] w (Tst (0 ≤ (l.getD i default).fst ∧ (l.getD i default).lst ≤ t.days - 1) w) := by
  have hx := ext_alloc w (.cells t.cells.toArray 33)
  have hB := Blk.new w 33 t.cells
  have hM1 := hM.ext hx
  have hil : i < l.length := by omega
  obtain ⟨b, off, rfl, -, c0, c1, c2⟩ := (hS.ext hx).at3 hil rfl
  have Hs := getD_at l hil default
  generalize l[i] = s at *
  rw [Hs] at hp ⊢
  have hM0 := hM
  clear Hs hS hM
  obtain ⟨a, f, z⟩ := s
  have hi0 : (0 : Int) ≤ (i : Int) := by omega
  have him : (i : Int) < (m : Int) := by omega
  obtain ⟨k, hk⟩ : ∃ k : Nat, a = (k : Int) := ⟨a.toNat, by have := hp.1; simp only at this; omega⟩
  subst hk
  have hkt : k < t.tw.length := by have := hp.2; simp only at this; omega
  have hkp : 0 < k := by have := hp.1; simp only at this; omega
  have hk0 : (0 : Int) ≤ (k : Int) := by omega
  have hkn : (k : Int) < (t.tw.length : Int) := by omega
  obtain ⟨b3, off3, hA, hc⟩ := tw_at hM1.tw hkt
  have Htw := getD_at t.tw hkt default
  have hvM := hM1.town _ (List.getElem_mem hkt)
  have hvM0 := hM0.town _ (List.getElem_mem hkt)
  have r0 := hc 0 _ rfl
  have r1 := hc 1 _ rfl
  have r2 := hc 2 _ rfl
  have r3 := hc 3 _ rfl
  have r4 := hc 4 _ rfl
  have r5 := hc 5 _ rfl
  have r6 := hc 6 _ rfl
  have r7 := hc 7 _ rfl
  have r8 := hc 8 _ rfl
  clear hc
  generalize t.tw[k] = v at *
  obtain ⟨⟨opn, slo, shi, pay, lot, rent, riv, cold, cut⟩, O, co, R, cr⟩ := v
  simp only at r0 r1 r2 r3 r4 r5 r6 r7 r8
  have HA := Lib.hid hA
  clear hA
  simp only [Nat.add_zero] at r0
  have hT := ht.town k hkp hkt
  rw [Htw] at hT
  have C := Lib.hid (fun V (hV : Below w.heap.size w V) => licensed_any ⟨⟨opn, slo, shi, pay, lot, rent, riv, cold, cut⟩, O, co, R, cr⟩ ⟨(k : Int), f, z⟩ t.days V (hvM0.ext hV) hT)
  unfold StE.val TwV.val at C
  simp only at C ⊢
  generalize hP : (0 ≤ f ∧ z ≤ t.days - 1) = P at *
  clear ht hM1 hvM Htw hp hP hT hvM0
  unfold TrV.val TrV.cells at *
  go_enter Try.func86, Try.ntmps86
  go_upto_region 1 with fail
  change Blk (w.alloc (.cells #[.int .i64 t.days, .int .i64 t.shift, .int .i64 t.size, .slice t.A t.tw.length t.ca, .slice t.B t.lg.length t.cb] 33)) w.heap.size _ _ at hB
  generalize (w.alloc (.cells #[.int .i64 t.days, .int .i64 t.shift, .int .i64 t.size, .slice t.A t.tw.length t.ca, .slice t.B t.lg.length t.cb] 33)) = W1 at *
  rw [HA.out] at hB ⊢
  refine Dr.wp_region_plan 16 [] (.q [0, 1, 2, 3, 4, 5, 6, 7, 8, 9, 10, 11, 12] (.e1 13 (.q [14, 15] .done))) (by kernel_rfl) (by kernel_rfl) ?_
  have hbd := hx.drew
  have hBd := hB.drew
  have q0 := Dr.cell0 (cell_ext c0 (ext_drew W1))
  have q1 := Dr.cell0 (cell_ext c1 (ext_drew W1))
  have q2 := Dr.cell0 (cell_ext c2 (ext_drew W1))
  have q3 := Dr.cell0 (cell_ext r0 (ext_drew W1))
  have q4 := Dr.cell0 (cell_ext r1 (ext_drew W1))
  have q5 := Dr.cell0 (cell_ext r2 (ext_drew W1))
  have q6 := Dr.cell0 (cell_ext r3 (ext_drew W1))
  have q7 := Dr.cell0 (cell_ext r4 (ext_drew W1))
  have q8 := Dr.cell0 (cell_ext r5 (ext_drew W1))
  have q9 := Dr.cell0 (cell_ext r6 (ext_drew W1))
  have q10 := Dr.cell0 (cell_ext r7 (ext_drew W1))
  have q11 := Dr.cell0 (cell_ext r8 (ext_drew W1))
  clear c0 c1 c2 r0 r1 r2 r3 r4 r5 r6 r7 r8 hB hx
  generalize World.drew W1 = V at *
  have q12 := Dr.cell0 (hBd.cell (i := 0) rfl)
  have q13 := Dr.cell0 (hBd.cell (i := 1) rfl)
  have q14 := Dr.cell0 (hBd.cell (i := 2) rfl)
  have q15 := Dr.cell0 (hBd.cell (i := 3) rfl)
  have q16 := Dr.cell0 (hBd.cell (i := 4) rfl)
  with_reducible refine Dr.plan_q (l := [_, _, _, _, _, _, _, _, _, _, _, _, _]) (by with_unfolding_all exact rfl) (fun K hK => ?_)
  iterate 13 (go_big_quiet_step (fail))
  refine wpQuiet_nil (hK _ ?_); clear hK K
  refine Dr.plan_e rfl (by rfl) (fun K hK => ?_)
  go_wp2_with fail
  refine (C.out _ hbd).mono ?_; rintro e V1 ⟨q, rfl, hq, hb1⟩
  refine hK _ _ (.of hb1) ?_; clear hK K
  with_reducible refine Dr.plan_q (l := [_, _]) (by with_unfolding_all exact rfl) (fun K hK => ?_)
  iterate 2 (go_big_quiet_step (fail))
  refine wpQuiet_nil (hK _ ?_); clear hK K
  refine Dr.plan_end rfl ?_
  try go_frame
  all_goals
    go_wp2
    all_goals
      go_ret
      exact Tst.of (ext_trans hbd hb1) fun h => hq (by simpa using h)
end Go.Proofs.Ytilkoooahoecfaa.Er

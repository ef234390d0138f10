/- Walk: route: is a stop too early? (Printed by mk_erni.py.) -/
import Derived.Test.YtilkoooahoecfaaErnY
namespace Go.Proofs.Ytilkoooahoecfaa.Er
open Go.RowKit Go.Bs Go.Pl Go.Sort Go.Er
set_option maxRecDepth 100000 in
set_option maxHeartbeats 2000000 in
theorem test6_any (t : TrV) (l : List StE) (S : Option Addr) (m c i : Nat) (w : World) (hM : TrM w t) (ht : TrOk t) (hS : Cells w S 3 StE.enc l) (hm : l.length = m) (hi : i < m) (hm9 : m ≤ 1000) (hp : Played t (l.getD i default)) : Calls Try.prog 91 #[t.val, .slice S m c, .int .i64 i] w (Tst (True) w) := by
  have hx1 := ext_alloc w (.cells t.cells.toArray 33)
  have hx2 := ext_alloc (w.alloc (.cells t.cells.toArray 33)) (.cells #[.int .i64 0, .int .i64 0, .int .i64 (-1)] 104)
  have hB := (Blk.new w 33 t.cells).ext hx2
  have hE := Blk.new (w.alloc (.cells t.cells.toArray 33)) 104 [.int .i64 0, .int .i64 0, .int .i64 (-1)]
  have e1 : (w.alloc (.cells t.cells.toArray 33)).heap.size = w.heap.size + 1 := by simp
  rw [e1] at hE
  have hx := ext_trans hx1 hx2
  have hil : i < l.length := by omega
  have hSx := hS.ext hx
  obtain ⟨b, off, rfl, hbl, g0, g1, g2⟩ := hS.at3 hil rfl
  have Hs := getD_at l hil default
  generalize l[i] = s at *
  rw [Hs] at hp
  clear Hs hS hx1 hx2 e1
  obtain ⟨a, f, z⟩ := s
  have hi0 : (0 : Int) ≤ (i : Int) := by omega
  have him : (i : Int) < (m : Int) := by omega
  obtain ⟨k, hk⟩ : ∃ k : Nat, a = (k : Int) := ⟨a.toNat, by have := hp.1; simp only at this; omega⟩
  subst hk
  have hkt : k < t.tw.length := by have := hp.2; simp only at this; omega
  have hk0 : (0 : Int) ≤ (k : Int) := by omega
  simp only at g0 g1 g2
  have c0 := cell_ext g0 hx
  have c1 := cell_ext g1 hx
  have c2 := cell_ext g2 hx
  have C := Lib.hid (fun V k0 (hV : Below w.heap.size w V) (h0 : k0 < t.tw.length) => lost_any t k0 k V (hM.ext hV) ht h0 hkt)
  have CP := Lib.hid (fun V n => played_any t n V ht.n9)
  have h0t : 0 < t.tw.length := by omega
  clear hM ht hp
  unfold TrV.val TrV.cells at *
  by_cases hz : i = 0
  · subst hz
    simp only [Nat.zero_mul, Nat.add_zero] at c0 c1 c2
    clear hSx g0 g1 g2
    go_enter Try.func91, Try.ntmps91
    go_upto_region 2 with fail
    change Blk ((w.alloc (.cells #[.int .i64 t.days, .int .i64 t.shift, .int .i64 t.size, .slice t.A t.tw.length t.ca, .slice t.B t.lg.length t.cb] 33)).alloc (.cells #[.int .i64 0, .int .i64 0, .int .i64 (-1)] 104)) _ _ _ at hB hE
    generalize (w.alloc (.cells #[.int .i64 t.days, .int .i64 t.shift, .int .i64 t.size, .slice t.A t.tw.length t.ca, .slice t.B t.lg.length t.cb] 33)).alloc (.cells #[.int .i64 0, .int .i64 0, .int .i64 (-1)] 104) = W1 at *
    try simp only [Nat.add_assoc, Nat.reduceAdd]
    go_upto_region 6 with fail
    refine Dr.wp_region_plan 20 [] (.q [0, 1, 2, 3, 4, 5, 6, 7, 8, 9, 10, 11, 12, 13, 14, 15] (.e1 16 (.q [17, 18, 19] .done))) (by kernel_rfl) (by kernel_rfl) ?_
    have hbd := hx.drew
    have hBd := hB.drew
    have hEd := hE.drew
    have q0 := Dr.cell0 (cell_ext c0 (ext_drew W1))
    have q1 := Dr.cell0 (cell_ext c1 (ext_drew W1))
    have q2 := Dr.cell0 (cell_ext c2 (ext_drew W1))
    clear c0 c1 c2 hB hE hx
    generalize World.drew W1 = V at *
    have q3 := Dr.cell0 (hBd.cell (i := 0) rfl)
    have q4 := Dr.cell0 (hBd.cell (i := 1) rfl)
    have q5 := Dr.cell0 (hBd.cell (i := 2) rfl)
    have q6 := Dr.cell0 (hBd.cell (i := 3) rfl)
    have q7 := Dr.cell0 (hBd.cell (i := 4) rfl)
    have q8 := Dr.cell0 (hEd.cell (i := 0) rfl)
    have q9 := Dr.cell0 (hEd.cell (i := 2) rfl)
    with_reducible refine Dr.plan_q (l := [_, _, _, _, _, _, _, _, _, _, _, _, _, _, _, _]) (by with_unfolding_all exact rfl) (fun K hK => ?_)
    iterate 16 (go_big_quiet_step (fail))
    refine wpQuiet_nil (hK _ ?_); clear hK K
    refine Dr.plan_e rfl (by rfl) (fun K hK => ?_)
    go_wp2_with fail
    refine (C.out _ 0 hbd (by omega)).mono ?_; rintro e V1 ⟨⟨n, rfl⟩, hb1⟩
    refine hK _ _ (.of hb1) ?_; clear hK K
    with_reducible refine Dr.plan_q (l := [_, _, _]) (by with_unfolding_all exact rfl) (fun K hK => ?_)
    iterate 3 (go_big_quiet_step (fail))
    refine wpQuiet_nil (hK _ ?_); clear hK K
    refine Dr.plan_end rfl ?_
    try go_frame
    all_goals
      go_wp2
      all_goals
        go_ret
        exact Tst.of (ext_trans hbd hb1) fun _ => trivial
  · obtain ⟨j, rfl⟩ : ∃ j, i = j + 1 := ⟨i - 1, by omega⟩
    have hjl : j < l.length := by omega
    obtain ⟨b2, off2, e2, -, d0, d1, d2⟩ := hSx.at3 hjl rfl
    injection e2 with e2
    injection e2 with e3 e4
    subst e3 e4
    generalize l[j] = s2 at *
    obtain ⟨a2, f2, z2⟩ := s2
    simp only at d0 d1 d2
    have hi1 : (0 : Int) < ((j + 1 : Nat) : Int) := by omega
    have hi2 : (0 : Int) < (j : Int) + 1 := by omega
    have wj : wrap64 ((j : Int) + 1 - 1) = (j : Int) := by unfold wrap64; omega
    have hj0 : (0 : Int) ≤ (j : Int) := by omega
    have hjm : (j : Int) < (m : Int) := by omega
    clear hSx
    go_enter Try.func91, Try.ntmps91
    go_upto_region 2 with fail
    change Blk ((w.alloc (.cells #[.int .i64 t.days, .int .i64 t.shift, .int .i64 t.size, .slice t.A t.tw.length t.ca, .slice t.B t.lg.length t.cb] 33)).alloc (.cells #[.int .i64 0, .int .i64 0, .int .i64 (-1)] 104)) _ _ _ at hB hE
    generalize (w.alloc (.cells #[.int .i64 t.days, .int .i64 t.shift, .int .i64 t.size, .slice t.A t.tw.length t.ca, .slice t.B t.lg.length t.cb] 33)).alloc (.cells #[.int .i64 0, .int .i64 0, .int .i64 (-1)] 104) = W1 at *
    try simp only [Nat.add_assoc, Nat.reduceAdd]
    have y0 : W1.cell? ⟨w.heap.size + 1, 0, none⟩ = _ := hE.cell (i := 0) rfl
    have y1 : W1.cell? ⟨w.heap.size + 1, 1, none⟩ = _ := hE.cell (i := 1) rfl
    have y2 : W1.cell? ⟨w.heap.size + 1, 2, none⟩ = _ := hE.cell (i := 2) rfl
    have f0 := hE.free 0
    have f1 := hE.free 1
    have f2' := hE.free 2
    go_upto_region 4 with fail
    have hES := ((hE.set 0 (.int .i64 a2)).set 1 (.int .i64 f2)).set 2 (.int .i64 z2)
    have hBS := ((hB.other (p := ⟨w.heap.size + 1, 0, none⟩) (by simp) (.int .i64 a2)).other (p := ⟨w.heap.size + 1, 1, none⟩) (by simp) (.int .i64 f2)).other (p := ⟨w.heap.size + 1, 2, none⟩) (by simp) (.int .i64 z2)
    have hxS := ((hx.setCell (p := ⟨w.heap.size + 1, 0, none⟩) (by simp) (.int .i64 a2)).setCell (p := ⟨w.heap.size + 1, 1, none⟩) (by simp) (.int .i64 f2)).setCell (p := ⟨w.heap.size + 1, 2, none⟩) (by simp) (.int .i64 z2)
    change Blk (((W1.setCell ⟨w.heap.size + 1, 0, none⟩ (.int .i64 a2)).setCell ⟨w.heap.size + 1, 1, none⟩ (.int .i64 f2)).setCell ⟨w.heap.size + 1, 2, none⟩ (.int .i64 z2)) _ _ [.int .i64 a2, .int .i64 f2, .int .i64 z2] at hES
    clear c0 c1 c2 d0 d1 d2 y0 y1 y2 f0 f1 f2' hE hB hx
    generalize (((W1.setCell ⟨w.heap.size + 1, 0, none⟩ (.int .i64 a2)).setCell ⟨w.heap.size + 1, 1, none⟩ (.int .i64 f2)).setCell ⟨w.heap.size + 1, 2, none⟩ (.int .i64 z2)) = U at *
    have y0 : U.cell? ⟨w.heap.size + 1, 0, none⟩ = _ := hES.cell (i := 0) rfl
    have b0 : U.cell? ⟨w.heap.size, 0, none⟩ = _ := hBS.cell (i := 0) rfl
    have b1 : U.cell? ⟨w.heap.size, 1, none⟩ = _ := hBS.cell (i := 1) rfl
    have b2 : U.cell? ⟨w.heap.size, 2, none⟩ = _ := hBS.cell (i := 2) rfl
    have b3 : U.cell? ⟨w.heap.size, 3, none⟩ = _ := hBS.cell (i := 3) rfl
    have b4 : U.cell? ⟨w.heap.size, 4, none⟩ = _ := hBS.cell (i := 4) rfl
    have HQ := Lib.hid (show btwE a2 1 ((t.tw.length : Int) - 1) = true → 1 ≤ a2 ∧ a2 ≤ (t.tw.length : Int) - 1 from fun h => of_decide_eq_true h)
    have CQ := Lib.hid (CP.out U a2)
    generalize btwE a2 1 ((t.tw.length : Int) - 1) = q at *
    go_wp2_with fail
    refine CQ.out.mono ?_; rintro e U2 ⟨rfl, hb2⟩
    have hxU := ext_trans hxS hb2
    have hE := hES.ext hb2
    have hB := hBS.ext hb2
    clear y0 b0 b1 b2 b3 b4 hES hBS hxS hb2 CQ CP
    cases q
    · go_wp2
      go_ret
      exact Tst.of hxU fun _ => trivial
    have hpl := HQ.out (by trivial)
    obtain ⟨k2, hk2⟩ : ∃ k : Nat, a2 = (k : Int) := ⟨a2.toNat, by omega⟩
    subst hk2
    have hk2t : k2 < t.tw.length := by omega
    have hk20 : (0 : Int) ≤ (k2 : Int) := by omega
    have c0 := cell_ext g0 hxU
    have c1 := cell_ext g1 hxU
    have c2 := cell_ext g2 hxU
    clear g0 g1 g2 HQ hpl
    go_upto_region 6 with fail
    refine Dr.wp_region_plan 20 [] (.q [0, 1, 2, 3, 4, 5, 6, 7, 8, 9, 10, 11, 12, 13, 14, 15] (.e1 16 (.q [17, 18, 19] .done))) (by kernel_rfl) (by kernel_rfl) ?_
    have hbd := hxU.drew
    have hBd := hB.drew
    have hEd := hE.drew
    have q0 := Dr.cell0 (cell_ext c0 (ext_drew U2))
    have q1 := Dr.cell0 (cell_ext c1 (ext_drew U2))
    have q2 := Dr.cell0 (cell_ext c2 (ext_drew U2))
    clear c0 c1 c2 hB hE hxU
    generalize World.drew U2 = V at *
    have q3 := Dr.cell0 (hBd.cell (i := 0) rfl)
    have q4 := Dr.cell0 (hBd.cell (i := 1) rfl)
    have q5 := Dr.cell0 (hBd.cell (i := 2) rfl)
    have q6 := Dr.cell0 (hBd.cell (i := 3) rfl)
    have q7 := Dr.cell0 (hBd.cell (i := 4) rfl)
    have q8 := Dr.cell0 (hEd.cell (i := 0) rfl)
    have q9 := Dr.cell0 (hEd.cell (i := 2) rfl)
    with_reducible refine Dr.plan_q (l := [_, _, _, _, _, _, _, _, _, _, _, _, _, _, _, _]) (by with_unfolding_all exact rfl) (fun K hK => ?_)
    iterate 16 (go_big_quiet_step (fail))
    refine wpQuiet_nil (hK _ ?_); clear hK K
    refine Dr.plan_e rfl (by rfl) (fun K hK => ?_)
    go_wp2_with fail
    refine (C.out _ k2 hbd (by exact hk2t)).mono ?_; rintro e V1 ⟨⟨n, rfl⟩, hb1⟩
    refine hK _ _ (.of hb1) ?_; clear hK K
    with_reducible refine Dr.plan_q (l := [_, _, _]) (by with_unfolding_all exact rfl) (fun K hK => ?_)
    iterate 3 (go_big_quiet_step (fail))
    refine wpQuiet_nil (hK _ ?_); clear hK K
    refine Dr.plan_end rfl ?_
    try go_frame
    all_goals
      go_wp2
      all_goals
        go_ret
        exact Tst.of (ext_trans hbd hb1) fun _ => trivial
end Go.Proofs.Ytilkoooahoecfaa.Er

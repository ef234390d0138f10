/- Walks: route: the tests of a stop in its season. (Printed by mk_erny.py.) -/
import Derived.Test.YtilkoooahoecfaaErnX
namespace Go.Proofs.Ytilkoooahoecfaa.Er
open Go.RowKit Go.Bs Go.Pl Go.Sort Go.Er
theorem cells_take {α : Type} {w : World} {A : Option Addr} {sz : Nat} {enc : α → List Value} {l : List α} (h : Cells w A sz enc l) (n : Nat) : Cells w A sz enc (l.take n) := fun i x hi => by
  rw [List.getElem?_take] at hi
  split at hi
  · exact h i x hi
  · cases hi
set_option maxRecDepth 100000 in
set_option maxHeartbeats 1000000 in
theorem test7a (t : TrV) (l : List StE) (S : Option Addr) (m c i : Nat) (w : World) (hM : TrM w t) (ht : TrOk t) (hS : Cells w S 3 StE.enc l) (hm : l.length = m) (hi : i < m) (hm9 : m ≤ 1000) (hp : Played t (l.getD i default)) (hl : ((i : Int) == (m : Int) - 1) = true) : Calls Try.prog 93 #[t.val, .slice S m c, .int .i64 i] w (Tst (True) w) := by
  have hx := ext_alloc w (.cells t.cells.toArray 33)
  have hB := Blk.new w 33 t.cells
  have hM1 := hM.ext hx
  have hil : i < l.length := by omega
  obtain ⟨b, off, rfl, -, c0, c1, c2⟩ := (hS.ext hx).at3 hil rfl
  have Hs := getD_at l hil default
  generalize l[i] = s at *
  rw [Hs] at hp
  have hM0 := hM
  clear Hs hS hM
  obtain ⟨a, f, z⟩ := s
  have hi0 : (0 : Int) ≤ (i : Int) := by omega
  have him : (i : Int) < (m : Int) := by omega
  obtain ⟨k, hk⟩ : ∃ k : Nat, a = (k : Int) := ⟨a.toNat, by have := hp.1; simp only at this; omega⟩
  subst hk
  have hkt : k < t.tw.length := by have := hp.2; simp only at this; omega
  have hkp : 0 < k := by have := hp.1; simp only at this; omega
  have hk0 : (0 : Int) ≤ (k : Int) := by omega
  have hkn : (k : Int) < (t.tw.length : Int) := by omega
  obtain ⟨b3, off3, hA, hc⟩ := tw_at hM1.tw hkt
  have Htw := getD_at t.tw hkt default
  have hvM := hM1.town _ (List.getElem_mem hkt)
  have r4 := hc 4 _ rfl
  clear hc
  generalize t.tw[k] = v at *
  obtain ⟨⟨opn, slo, shi, pay, lot, rent, riv, cold, cut⟩, O, co, R, cr⟩ := v
  simp only at r4
  have HA := Lib.hid hA
  clear hA
  have C := Lib.hid (fun V (hV : Below w.heap.size w V) => lost_any t k 0 V (hM0.ext hV) ht hkt (by omega))
  unfold TrV.val at C
  rw [HA.out] at C
  have e1 : wrap64 ((m : Int) - 1) = (m : Int) - 1 := by unfold wrap64; omega
  clear ht hM1 hvM Htw hp hM0
  unfold TrV.val TrV.cells at *
  go_enter Try.func93, Try.ntmps93
  go_upto_region 1 with fail
  change Blk (w.alloc (.cells #[.int .i64 t.days, .int .i64 t.shift, .int .i64 t.size, .slice t.A t.tw.length t.ca, .slice t.B t.lg.length t.cb] 33)) w.heap.size _ _ at hB
  generalize (w.alloc (.cells #[.int .i64 t.days, .int .i64 t.shift, .int .i64 t.size, .slice t.A t.tw.length t.ca, .slice t.B t.lg.length t.cb] 33)) = W1 at *
  rw [HA.out] at hB ⊢
  refine Dr.wp_region_plan 25 [] (.q [0, 1, 2, 3, 4, 5, 6, 7, 8, 9, 10, 11, 12, 13, 14, 15, 16, 19, 20, 21] (.e1 17 (.q [18, 22, 23, 24] .done))) (by kernel_rfl) (by kernel_rfl) ?_
  have hbd := hx.drew
  have hBd := hB.drew
  have q0 := Dr.cell0 (cell_ext c0 (ext_drew W1))
  have q1 := Dr.cell0 (cell_ext c1 (ext_drew W1))
  have q2 := Dr.cell0 (cell_ext c2 (ext_drew W1))
  have q3 := Dr.cell0 (cell_ext r4 (ext_drew W1))
  clear c0 c1 c2 r4 hB hx
  generalize World.drew W1 = V at *
  have q4 := Dr.cell0 (hBd.cell (i := 0) rfl)
  have q5 := Dr.cell0 (hBd.cell (i := 1) rfl)
  have q6 := Dr.cell0 (hBd.cell (i := 2) rfl)
  have q7 := Dr.cell0 (hBd.cell (i := 3) rfl)
  have q8 := Dr.cell0 (hBd.cell (i := 4) rfl)
  with_reducible refine Dr.plan_q (l := [_, _, _, _, _, _, _, _, _, _, _, _, _, _, _, _, _, _, _, _]) (by with_unfolding_all exact rfl) (fun K hK => ?_)
  iterate 20 (go_big_quiet_step (fail))
  refine wpQuiet_nil (hK _ ?_); clear hK K
  refine Dr.plan_e rfl (by rfl) (fun K hK => ?_)
  go_wp2_with fail
  refine (C.out _ hbd).mono ?_; rintro e V1 ⟨⟨n, rfl⟩, hb1⟩
  refine hK _ _ (.of hb1) ?_; clear hK K
  with_reducible refine Dr.plan_q (l := [_, _, _, _]) (by with_unfolding_all exact rfl) (fun K hK => ?_)
  iterate 4 (go_big_quiet_step (fail))
  refine wpQuiet_nil (hK _ ?_); clear hK K
  refine Dr.plan_end rfl ?_
  try go_frame
  all_goals
    go_wp2
    all_goals
      go_ret
      exact Tst.of (ext_trans hbd hb1) fun _ => trivial
set_option maxRecDepth 100000 in
set_option maxHeartbeats 1000000 in
theorem test7b (t : TrV) (l : List StE) (S : Option Addr) (m c i : Nat) (w : World) (hM : TrM w t) (_ht : TrOk t) (hS : Cells w S 3 StE.enc l) (hm : l.length = m) (hi : i < m) (hm9 : m ≤ 1000) (hp : Played t (l.getD i default)) (hl : ((i : Int) == (m : Int) - 1) = false) : Calls Try.prog 93 #[t.val, .slice S m c, .int .i64 i] w (Tst (True) w) := by
  have hx := ext_alloc w (.cells t.cells.toArray 33)
  have hB := Blk.new w 33 t.cells
  have hM1 := hM.ext hx
  have hil : i < l.length := by omega
  obtain ⟨b, off, rfl, -, c0, c1, c2⟩ := (hS.ext hx).at3 hil rfl
  have Hs := getD_at l hil default
  generalize l[i] = s at *
  rw [Hs] at hp
  have hM0 := hM
  clear Hs hS hM
  obtain ⟨a, f, z⟩ := s
  have hi0 : (0 : Int) ≤ (i : Int) := by omega
  have him : (i : Int) < (m : Int) := by omega
  obtain ⟨k, hk⟩ : ∃ k : Nat, a = (k : Int) := ⟨a.toNat, by have := hp.1; simp only at this; omega⟩
  subst hk
  have hkt : k < t.tw.length := by have := hp.2; simp only at this; omega
  have hkp : 0 < k := by have := hp.1; simp only at this; omega
  have hk0 : (0 : Int) ≤ (k : Int) := by omega
  have hkn : (k : Int) < (t.tw.length : Int) := by omega
  obtain ⟨b3, off3, hA, hc⟩ := tw_at hM1.tw hkt
  have Htw := getD_at t.tw hkt default
  have hvM := hM1.town _ (List.getElem_mem hkt)
  have r4 := hc 4 _ rfl
  clear hc
  generalize t.tw[k] = v at *
  obtain ⟨⟨opn, slo, shi, pay, lot, rent, riv, cold, cut⟩, O, co, R, cr⟩ := v
  simp only at r4
  have HA := Lib.hid hA
  clear hA
  have e1 : wrap64 ((m : Int) - 1) = (m : Int) - 1 := by unfold wrap64; omega
  clear hM1 hvM Htw hp hM0
  unfold TrV.val TrV.cells at *
  go_enter Try.func93, Try.ntmps93
  go_upto_region 1 with fail
  change Blk (w.alloc (.cells #[.int .i64 t.days, .int .i64 t.shift, .int .i64 t.size, .slice t.A t.tw.length t.ca, .slice t.B t.lg.length t.cb] 33)) w.heap.size _ _ at hB
  generalize (w.alloc (.cells #[.int .i64 t.days, .int .i64 t.shift, .int .i64 t.size, .slice t.A t.tw.length t.ca, .slice t.B t.lg.length t.cb] 33)) = W1 at *
  rw [HA.out] at hB ⊢
  refine Dr.wp_region_plan 25 [] (.q [0, 1, 2, 3, 4, 5, 6, 7, 8, 9, 10, 11, 12, 13, 14, 15, 16, 19, 20, 21] (.e1 17 (.q [18, 22, 23, 24] .done))) (by kernel_rfl) (by kernel_rfl) ?_
  have hbd := hx.drew
  have hBd := hB.drew
  have q0 := Dr.cell0 (cell_ext c0 (ext_drew W1))
  have q1 := Dr.cell0 (cell_ext c1 (ext_drew W1))
  have q2 := Dr.cell0 (cell_ext c2 (ext_drew W1))
  have q3 := Dr.cell0 (cell_ext r4 (ext_drew W1))
  clear c0 c1 c2 r4 hB hx
  generalize World.drew W1 = V at *
  have q4 := Dr.cell0 (hBd.cell (i := 0) rfl)
  have q5 := Dr.cell0 (hBd.cell (i := 1) rfl)
  have q6 := Dr.cell0 (hBd.cell (i := 2) rfl)
  have q7 := Dr.cell0 (hBd.cell (i := 3) rfl)
  have q8 := Dr.cell0 (hBd.cell (i := 4) rfl)
  with_reducible refine Dr.plan_q (l := [_, _, _, _, _, _, _, _, _, _, _, _, _, _, _, _, _, _, _, _]) (by with_unfolding_all exact rfl) (fun K hK => ?_)
  iterate 20 (go_big_quiet_step (fail))
  refine wpQuiet_nil (hK _ ?_); clear hK K
  refine Dr.plan_e_skip rfl (by rfl) ?_
  go_frame
  with_reducible refine Dr.plan_q (l := [_, _, _, _]) (by with_unfolding_all exact rfl) (fun K hK => ?_)
  iterate 4 (go_big_quiet_step (fail))
  refine wpQuiet_nil (hK _ ?_); clear hK K
  refine Dr.plan_end rfl ?_
  try go_frame
  all_goals
    go_wp2
    all_goals
      go_ret
      exact Tst.of hbd fun _ => trivial
theorem test7_any (t : TrV) (l : List StE) (S : Option Addr) (m c i : Nat) (w : World) (hM : TrM w t) (ht : TrOk t) (hS : Cells w S 3 StE.enc l) (hm : l.length = m) (hi : i < m) (hm9 : m ≤ 1000) (hp : Played t (l.getD i default)) : Calls Try.prog 93 #[t.val, .slice S m c, .int .i64 i] w (Tst (True) w) := by
  cases hl : ((i : Int) == (m : Int) - 1)
  · exact test7b t l S m c i w hM ht hS hm hi hm9 hp hl
  · exact test7a t l S m c i w hM ht hS hm hi hm9 hp hl
theorem stop_eq (l : List StE) (S : Option Addr) (m c i B4 B5 : Nat) (w : World) (hS : Cells w S 3 StE.enc l) (hm : l.length = m) (hi : i < m) (h4 : Blk w B4 38 [.slice S m c]) (h5 : Blk w B5 3 [.int .i64 (i : Int)]) (l2 : List StE) :
    PredR Try.prog 90 #[] #[.pointer (some ⟨B4, 0, none⟩), .pointer (some ⟨B5, 0, none⟩)] StE.val (fun x => x.town == (l.getD i default).town) w l2 := by
  intro W x _ hb
  have hil : i < l.length := by omega
  obtain ⟨b, off, rfl, -, c0, -, -⟩ := (hS.ext hb).at3 hil rfl
  have Hs := getD_at l hil default
  generalize l[i] = s at *
  rw [Hs]
  clear Hs hS
  have h4W := h4.ext hb
  have h5W := h5.ext hb
  obtain ⟨a, f, z⟩ := s
  obtain ⟨a2, f2, z2⟩ := x
  have hi0 : (0 : Int) ≤ (i : Int) := by omega
  have him : (i : Int) < (m : Int) := by omega
  have hx := ext_alloc W (.cells #[.int .i64 a2, .int .i64 f2, .int .i64 z2] 104)
  have hB := Blk.new W 104 [.int .i64 a2, .int .i64 f2, .int .i64 z2]
  have h4X := h4W.ext hx
  have h5X := h5W.ext hx
  have cX := cell_ext c0 hx
  clear h4 h5 h4W h5W c0
  show Calls Try.prog 90 #[.agg #[.int .i64 a2, .int .i64 f2, .int .i64 z2], .pointer (some ⟨B4, 0, none⟩), .pointer (some ⟨B5, 0, none⟩)] W fun e w' => e = .returned (.bool (a2 == a)) ∧ Below W.heap.size W w'
  simp only at cX
  go_enter Try.func90, Try.ntmps90
  go_upto_region 1 with fail
  change Blk (W.alloc (.cells #[.int .i64 a2, .int .i64 f2, .int .i64 z2] 104)) _ _ _ at hB h4X h5X
  generalize W.alloc (.cells #[.int .i64 a2, .int .i64 f2, .int .i64 z2] 104) = W1 at *
  refine Dr.wp_region_plan 9 [] (.q [0, 1, 2, 3, 4, 5, 6, 7, 8] .done) (by kernel_rfl) (by kernel_rfl) ?_
  have hbd := hx.drew
  have hBd := hB.drew
  have h4d := h4X.drew
  have h5d := h5X.drew
  have q0 := Dr.cell0 (cell_ext cX (ext_drew W1))
  clear cX hB h4X h5X hx
  generalize World.drew W1 = V at *
  have q1 := Dr.cell0 (hBd.cell (i := 0) rfl)
  have q2 := Dr.cell0 (h4d.cell (i := 0) rfl)
  have q3 := Dr.cell0 (h5d.cell (i := 0) rfl)
  with_reducible refine Dr.plan_q (l := [_, _, _, _, _, _, _, _, _]) (by with_unfolding_all exact rfl) (fun K hK => ?_)
  iterate 9 (go_big_quiet_step (fail))
  refine wpQuiet_nil (hK _ ?_); clear hK K
  refine Dr.plan_end rfl ?_
  try go_frame
  go_wp2
  go_ret
  exact ⟨rfl, hbd⟩
set_option maxRecDepth 100000 in
theorem test5_any (t : TrV) (l : List StE) (S : Option Addr) (m c i : Nat) (w : World) (hS : Cells w S 3 StE.enc l) (hm : l.length = m) (hi : i < m) (hm9 : m ≤ 1000) (hmc : m ≤ c) : Calls Try.prog 88 #[t.val, .slice S m c, .int .i64 i] w (Tst (True) w) := by
  have hx1 := ext_alloc w (.cells t.cells.toArray 33)
  have hx2 := ext_alloc (w.alloc (.cells t.cells.toArray 33)) (.cells #[.slice S m c] 38)
  have hx3 := ext_alloc ((w.alloc (.cells t.cells.toArray 33)).alloc (.cells #[.slice S m c] 38)) (.cells #[.int .i64 (i : Int)] 3)
  have k2 := (Blk.new (w.alloc (.cells t.cells.toArray 33)) 38 [.slice S m c]).ext hx3
  have k3 := Blk.new ((w.alloc (.cells t.cells.toArray 33)).alloc (.cells #[.slice S m c] 38)) 3 [.int .i64 (i : Int)]
  have e1 : (w.alloc (.cells t.cells.toArray 33)).heap.size = w.heap.size + 1 := by simp
  have e2 : ((w.alloc (.cells t.cells.toArray 33)).alloc (.cells #[.slice S m c] 38)).heap.size = w.heap.size + 2 := by simp
  rw [e1] at k2
  rw [e2] at k3
  have hbx := ext_trans (ext_trans hx1 hx2) hx3
  have hSx := hS.ext hbx
  clear e1 e2
  have hil : i < l.length := by omega
  obtain ⟨b, off, rfl, -⟩ := hS.at hil
  have C := Lib.hid (contains_stop 90 #[] #[.pointer (some ⟨w.heap.size + 1, 0, none⟩), .pointer (some ⟨w.heap.size + 2, 0, none⟩)] (fun x => x.town == (l.getD i default).town) (some ⟨b, off, none⟩) i c (l.take i) _ (enters_of Try.func90 (by kernel_rfl) rfl) (by rw [List.length_take]; omega) (by omega) (cells_take hSx i) (stop_eq l (some ⟨b, off, none⟩) m c i (w.heap.size + 1) (w.heap.size + 2) _ hSx hm hi k2 k3 (l.take i)))
  generalize ((l.take i).any fun x => x.town == (l.getD i default).town) = q at *
  have hi0 : (0 : Int) ≤ (i : Int) := by omega
  have hic : (i : Int) ≤ (c : Int) := by omega
  have hic2 : i ≤ c := by omega
  have hc0 : ¬ c = 0 := by omega
  clear hSx hS k2 k3 hx1 hx2 hx3
  unfold TrV.val TrV.cells at *
  go_enter Try.func88, Try.ntmps88
  go_wp2_with fail
  simp only [Nat.add_assoc, Nat.reduceAdd]
  refine C.out.mono ?_; rintro e w1 ⟨rfl, hb1⟩
  go_wp2
  go_ret
  exact Tst.of (ext_trans hbx hb1) fun _ => trivial
end Go.Proofs.Ytilkoooahoecfaa.Er

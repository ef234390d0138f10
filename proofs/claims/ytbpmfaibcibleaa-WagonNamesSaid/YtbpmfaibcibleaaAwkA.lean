/- Walk: ints, same, truck. (Printed by mk_awka.py.) -/
import Derived.Test.YtbpmfaibcibleaaTrpA
import Derived.Test.YtbpmfaibcibleaaClbA
namespace Go.Proofs.Ytbpmfaibcibleaa
open Go.RowKit Go.Bs Go.Wg Go.Pl Go.Sort
theorem ints_any (A B : Option Addr) (n m c d : Nat) (l1 l2 : List Int) (w : World) (h1 : l1.length = n) (h2 : l2.length = m) (m1 : n ≤ 1000000000) (m2 : m ≤ 1000000000) (hA : Cells w A 1 Go.Bs.encI l1) (hB : Cells w B 1 Go.Bs.encI l2) :
    Calls Try.prog 46 #[.slice A n c, .slice B m d] w fun e w' => e = .returned (.bool (decide (l1 = l2))) ∧ Below w.heap.size w w' := by
  by_cases hnm : n = m
  · subst hnm
    generalize hres : decide (l1 = l2) = res
    have Hres := Lib.hid hres
    clear hres
    go_enter Try.func46, Try.ntmps46
    go_wp2
    go_loopw [5] (fun x wr => ∃ k : Nat, x = .int .i64 k ∧ k ≤ n ∧ Hid (l1.take k = l2.take k) ∧ Below w.heap.size w wr) (fun x _ => n - (intOf x).toNat)
    case atStart => exact ⟨0, rfl, by omega, Lib.hid (by simp), Below.refl _ _⟩
    case round =>
      obtain ⟨k, rfl, hk, Hk, hb⟩ := hrel
      by_cases hlt : k < n
      · have hlt' : (k : Int) < n := by omega
        have hk0 : (0 : Int) ≤ k := by omega
        go_upto_region 6 with fail
        refine Dr.wp_region_plan 9 [] (.q [0, 1, 2, 3, 4, 5, 6, 7, 8] .done) (by kernel_rfl) (by kernel_rfl) ?_
        have hb2 := hb.drew
        clear hb
        generalize World.drew _ = W at *
        have k1 : k < l1.length := by rw [h1]; exact hlt
        have k2 : k < l2.length := by rw [h2]; exact hlt
        obtain ⟨b1, o1, rfl, -, d1⟩ := (hA.ext hb2).at1 k1 rfl
        obtain ⟨b2, o2, rfl, -, d2⟩ := (hB.ext hb2).at1 k2 rfl
        have q1 := Dr.cell0 d1
        have q2 := Dr.cell0 d2
        refine Dr.plan_q (l := [_, _, _, _, _, _, _, _, _]) rfl (fun K hK => ?_)
        iterate 9 (go_big_quiet_step (fail))
        refine wpQuiet_nil (hK _ ?_); clear hK K
        refine Dr.plan_end rfl ?_
        clear q1 q2 d1 d2
        cases hq : (l1[k] != l2[k])
        · have Hn := Lib.hid (show l1.take (k + 1) = l2.take (k + 1) by
            rw [List.take_succ_eq_append_getElem k1, List.take_succ_eq_append_getElem k2, Hk.out]
            simp at hq
            rw [hq])
          clear hq
          go_wp2
          go_roundw
          case rel => exact ⟨k + 1, by go_num, by omega, Hn, hb2⟩
          case measure => simp [intOf]; omega
        · have Hr := Lib.hid (show res = false by
            rw [← Hres.out]
            refine decide_eq_false (fun e => ?_)
            subst e
            simp at hq)
          clear hq
          go_wp2
          go_ret
          exact ⟨ret_congr (bool_congr Hr.out.symm), hb2⟩
      · obtain rfl : k = n := by omega
        have Hr := Lib.hid (show res = true by
          rw [← Hres.out]
          have e := Hk.out
          rw [List.take_of_length_le (by omega), List.take_of_length_le (by omega)] at e
          exact decide_eq_true e)
        go_wp2
        go_ret
        exact ⟨ret_congr (bool_congr Hr.out.symm), hb⟩
  · have hr : decide (l1 = l2) = false := decide_eq_false (fun e => hnm (by rw [← h1, ← h2, e]))
    have Hr := Lib.hid hr
    have hnm' : ((n : Int) != (m : Int)) = true := by simp; omega
    clear hr
    go_enter Try.func46, Try.ntmps46
    go_wp2
    go_ret
    exact ⟨ret_congr (bool_congr Hr.out.symm), Below.refl _ _⟩

theorem cells_of {α : Type} {w : World} {B T sz : Nat} {enc : α → List Value} {l : List α} {cs : List Value} (hen : ∀ x, (enc x).length = sz) (h : Blk w B T cs) (hcs : cs = l.flatMap enc) : Cells w (some ⟨B, 0, none⟩) sz enc l := fun i x hi =>
  ⟨B, 0, rfl, fun j y hj => by
    have h2 := flatMap_get hen l i j x y hi hj
    rw [← hcs] at h2
    have := h.cell h2
    simpa using this⟩
/-- the lorry of the examples and its things -/
def trL : Lo := ⟨[60, 50], 30, 1000, 800, 100, 1500, 10⟩
def trT : List Th := [⟨30, 20, 100, 5⟩, ⟨30, 25, 200, 2⟩, ⟨20, 30, 300, 7⟩, ⟨20, 10, 50, 2⟩]
set_option maxRecDepth 100000 in
theorem truck_any (w : World) : Calls Try.prog 62 #[] w fun e w' => (∃ A T, e = .returned (.tuple #[LoV.val ⟨trL, A, 2⟩, .slice T 4 4]) ∧ Cells w' A 1 Go.Bs.encI trL.lanes ∧ Cells w' T 4 Th.enc trT) ∧ Below w.heap.size w w' := by
  go_enter Try.func62, Try.ntmps62
  go_upto_region 1 with fail
  have hZ := Blk.new w 44 [.slice none 0 0, .int .i64 0, .int .i64 0, .int .i64 0, .int .i64 0, .int .i64 0, .int .i64 0]
  change Blk (w.alloc (.cells #[.slice none 0 0, .int .i64 0, .int .i64 0, .int .i64 0, .int .i64 0, .int .i64 0, .int .i64 0] 44)) _ _ _ at hZ
  go_wp2
  have hB := ((Blk.new w 44 [.slice (some ⟨w.heap.size + 1, 0, none⟩) 2 2, .int .i64 30, .int .i64 1000, .int .i64 800, .int .i64 100, .int .i64 1500, .int .i64 10]).alloc (.cells #[.int .i64 60, .int .i64 50] 3)).alloc (.cells #[.int .i64 30, .int .i64 20, .int .i64 100, .int .i64 5, .int .i64 30, .int .i64 25, .int .i64 200, .int .i64 2, .int .i64 20, .int .i64 30, .int .i64 300, .int .i64 7, .int .i64 20, .int .i64 10, .int .i64 50, .int .i64 2] 102)
  have hL := (Blk.new (w.alloc (.cells #[.slice (some ⟨w.heap.size + 1, 0, none⟩) 2 2, .int .i64 30, .int .i64 1000, .int .i64 800, .int .i64 100, .int .i64 1500, .int .i64 10] 44)) 3 [.int .i64 60, .int .i64 50]).alloc (.cells #[.int .i64 30, .int .i64 20, .int .i64 100, .int .i64 5, .int .i64 30, .int .i64 25, .int .i64 200, .int .i64 2, .int .i64 20, .int .i64 30, .int .i64 300, .int .i64 7, .int .i64 20, .int .i64 10, .int .i64 50, .int .i64 2] 102)
  have hT := Blk.new ((w.alloc (.cells #[.slice (some ⟨w.heap.size + 1, 0, none⟩) 2 2, .int .i64 30, .int .i64 1000, .int .i64 800, .int .i64 100, .int .i64 1500, .int .i64 10] 44)).alloc (.cells #[.int .i64 60, .int .i64 50] 3)) 102 [.int .i64 30, .int .i64 20, .int .i64 100, .int .i64 5, .int .i64 30, .int .i64 25, .int .i64 200, .int .i64 2, .int .i64 20, .int .i64 30, .int .i64 300, .int .i64 7, .int .i64 20, .int .i64 10, .int .i64 50, .int .i64 2]
  have hb : Below w.heap.size w (((w.alloc (.cells #[.slice (some ⟨w.heap.size + 1, 0, none⟩) 2 2, .int .i64 30, .int .i64 1000, .int .i64 800, .int .i64 100, .int .i64 1500, .int .i64 10] 44)).alloc (.cells #[.int .i64 60, .int .i64 50] 3)).alloc (.cells #[.int .i64 30, .int .i64 20, .int .i64 100, .int .i64 5, .int .i64 30, .int .i64 25, .int .i64 200, .int .i64 2, .int .i64 20, .int .i64 30, .int .i64 300, .int .i64 7, .int .i64 20, .int .i64 10, .int .i64 50, .int .i64 2] 102)) := (((Below.refl _ _).alloc (Nat.le_refl _) _).alloc (by simp) _).alloc (by simp; omega) _
  simp only [World.size_alloc] at hL hT
  change Blk (((w.alloc (.cells #[.slice (some ⟨w.heap.size + 1, 0, none⟩) 2 2, .int .i64 30, .int .i64 1000, .int .i64 800, .int .i64 100, .int .i64 1500, .int .i64 10] 44)).alloc (.cells #[.int .i64 60, .int .i64 50] 3)).alloc (.cells #[.int .i64 30, .int .i64 20, .int .i64 100, .int .i64 5, .int .i64 30, .int .i64 25, .int .i64 200, .int .i64 2, .int .i64 20, .int .i64 30, .int .i64 300, .int .i64 7, .int .i64 20, .int .i64 10, .int .i64 50, .int .i64 2] 102)) _ _ _ at hB hL hT
  generalize ((w.alloc (.cells #[.slice (some ⟨w.heap.size + 1, 0, none⟩) 2 2, .int .i64 30, .int .i64 1000, .int .i64 800, .int .i64 100, .int .i64 1500, .int .i64 10] 44)).alloc (.cells #[.int .i64 60, .int .i64 50] 3)).alloc (.cells #[.int .i64 30, .int .i64 20, .int .i64 100, .int .i64 5, .int .i64 30, .int .i64 25, .int .i64 200, .int .i64 2, .int .i64 20, .int .i64 30, .int .i64 300, .int .i64 7, .int .i64 20, .int .i64 10, .int .i64 50, .int .i64 2] 102) = W at *
  have k0 : W.cell? ⟨w.heap.size, 0, none⟩ = _ := hB.cell rfl
  have k1 : W.cell? ⟨w.heap.size, 1, none⟩ = _ := hB.cell rfl
  have k2 : W.cell? ⟨w.heap.size, 2, none⟩ = _ := hB.cell rfl
  have k3 : W.cell? ⟨w.heap.size, 3, none⟩ = _ := hB.cell rfl
  have k4 : W.cell? ⟨w.heap.size, 4, none⟩ = _ := hB.cell rfl
  have k5 : W.cell? ⟨w.heap.size, 5, none⟩ = _ := hB.cell rfl
  have k6 : W.cell? ⟨w.heap.size, 6, none⟩ = _ := hB.cell rfl
  refine bodyPost_ret (v := .tuple #[LoV.val ⟨trL, some ⟨w.heap.size + 1, 0, none⟩, 2⟩, .slice (some ⟨w.heap.size + 1 + 1, 0, none⟩) 4 4]) (by simp [results, Try.results62, go_sem, k0, k1, k2, k3, k4, k5, k6, LoV.val, trL]) rfl ?_
  exact ⟨⟨_, _, rfl, cells_of Go.Bs.encI_len hL rfl, cells_of th_len hT rfl⟩, hb⟩
set_option maxHeartbeats 1000000 in
theorem same_any (A B : Option Addr) (n m c d : Nat) (r1 r2 : List RwV) (w : World) (h1 : r1.length = n) (h2 : r2.length = m) (m1 : n ≤ 1000000000) (m2 : m ≤ 1000000000) (hA : RwM w A r1) (hB : RwM w B r2) (l1 : ∀ x ∈ r1, x.r.length ≤ 1000000000) (l2 : ∀ x ∈ r2, x.r.length ≤ 1000000000) :
    Calls Try.prog 32 #[.slice A n c, .slice B m d] w fun e w' => e = .returned (.bool (decide (rows r1 = rows r2))) ∧ Below w.heap.size w w' := by
  have H1 := Lib.hid (show (rows r1).length = n by rw [rows_len, h1])
  have H2 := Lib.hid (show (rows r2).length = m by rw [rows_len, h2])
  have L1 := Lib.hid l1
  have L2 := Lib.hid l2
  clear l1 l2
  by_cases hnm : n = m
  · subst hnm
    generalize hres : decide (rows r1 = rows r2) = res
    have Hres := Lib.hid hres
    clear hres
    go_enter Try.func32, Try.ntmps32
    go_wp2
    go_loopw [5] (fun x wr => ∃ k : Nat, x = .int .i64 k ∧ k ≤ n ∧ Hid ((rows r1).take k = (rows r2).take k) ∧ Below w.heap.size w wr) (fun x _ => n - (intOf x).toNat)
    case atStart => exact ⟨0, rfl, by omega, Lib.hid (by simp), Below.refl _ _⟩
    case round =>
      obtain ⟨k, rfl, hk, Hk, hb⟩ := hrel
      by_cases hlt : k < n
      · have hlt' : (k : Int) < n := by omega
        have hk0 : (0 : Int) ≤ k := by omega
        go_upto_region 6 with fail
        refine Dr.wp_region_plan 10 [] (.q [0, 1, 2, 3, 4, 5, 6, 7] (.e1 8 (.q [9] .done))) (by kernel_rfl) (by kernel_rfl) ?_
        have hb2 := hb.drew
        clear hb
        generalize World.drew _ = W at *
        have k1 : k < r1.length := by rw [h1]; exact hlt
        have k2 : k < r2.length := by rw [h2]; exact hlt
        obtain ⟨b1, o1, rfl, -, d1⟩ := (hA.hdr.ext hb2).at1 k1 rfl
        obtain ⟨b2, o2, rfl, -, d2⟩ := (hB.hdr.ext hb2).at1 k2 rfl
        have q1 := Dr.cell0 d1
        have q2 := Dr.cell0 d2
        have C := Lib.hid (fun V (hV : Below W.heap.size W V) => ints_any r1[k].A r2[k].A r1[k].r.length r2[k].r.length r1[k].c r2[k].c r1[k].r r2[k].r V rfl rfl (L1.out _ (List.getElem_mem k1)) (L2.out _ (List.getElem_mem k2)) (((hA.row _ (List.getElem_mem k1)).ext hb2).ext hV) (((hB.row _ (List.getElem_mem k2)).ext hb2).ext hV))
        have Hn := Lib.hid (show r1[k].r = r2[k].r → (rows r1).take (k + 1) = (rows r2).take (k + 1) from fun e => by
          rw [List.take_succ_eq_append_getElem (by rw [H1.out]; exact hlt), List.take_succ_eq_append_getElem (by rw [H2.out]; exact hlt), Hk.out]
          simp [rows, e])
        have Hf := Lib.hid (show ¬ r1[k].r = r2[k].r → res = false from fun e => by
          rw [← Hres.out]
          refine decide_eq_false (fun h => e ?_)
          have g1 : (rows r1)[k]? = some r1[k].r := by simp [rows, List.getElem?_map, List.getElem?_eq_getElem k1]
          have g2 : (rows r2)[k]? = some r2[k].r := by simp [rows, List.getElem?_map, List.getElem?_eq_getElem k2]
          rw [h, g2] at g1
          exact (Option.some.inj g1).symm)
        clear d1 d2
        generalize hb0 : decide (r1[k].r = r2[k].r) = bb at *
        have Hb0 := Lib.hid hb0
        clear hb0
        generalize r1[k].A = A1 at *
        generalize r2[k].A = A2 at *
        generalize r1[k].c = c1 at *
        generalize r2[k].c = c2 at *
        generalize r1[k].r = v1 at *
        generalize r2[k].r = v2 at *
        generalize v1.length = n1 at *
        generalize v2.length = n2 at *
        refine Dr.plan_q (l := [_, _, _, _, _, _, _, _]) rfl (fun K hK => ?_)
        iterate 8 (go_big_quiet_step (fail))
        refine wpQuiet_nil (hK _ ?_); clear hK K
        clear q1 q2
        refine Dr.plan_e rfl (by rfl) (fun K hK => ?_)
        go_wp2_with fail
        refine (C.out _ (Below.refl _ _)).mono ?_; rintro e w1 ⟨rfl, hb1⟩
        refine hK _ _ (.of hb1) ?_; clear hK K
        refine Dr.plan_q (l := [_]) rfl (fun K hK => ?_)
        iterate 1 (go_big_quiet_step (fail))
        refine wpQuiet_nil (hK _ ?_); clear hK K
        refine Dr.plan_end rfl ?_
        have hb3 := ext_trans hb2 hb1
        cases bb
        · have Hr := Lib.hid (Hf.out (of_decide_eq_false Hb0.out))
          go_wp2
          go_ret
          exact ⟨ret_congr (bool_congr Hr.out.symm), hb3⟩
        · have Hn2 := Lib.hid (Hn.out (of_decide_eq_true Hb0.out))
          go_wp2
          go_roundw
          case rel => exact ⟨k + 1, by go_num, by omega, Hn2, hb3⟩
          case measure => simp [intOf]; omega
      · obtain rfl : k = n := by omega
        have Hr := Lib.hid (show res = true by
          rw [← Hres.out]
          have e := Hk.out
          rw [List.take_of_length_le (by rw [H1.out]; omega), List.take_of_length_le (by rw [H2.out]; omega)] at e
          exact decide_eq_true e)
        go_wp2
        go_ret
        exact ⟨ret_congr (bool_congr Hr.out.symm), hb⟩
  · have hr : decide (rows r1 = rows r2) = false := decide_eq_false (fun e => hnm (by rw [← H1.out, ← H2.out, e]))
    have Hr := Lib.hid hr
    have hnm' : ((n : Int) != (m : Int)) = true := by simp; omega
    clear hr
    go_enter Try.func32, Try.ntmps32
    go_wp2
    go_ret
    exact ⟨ret_congr (bool_congr Hr.out.symm), Below.refl _ _⟩
end Go.Proofs.Ytbpmfaibcibleaa

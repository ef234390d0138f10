/- Walk: the document's examples; wakes. -/
import Derived.Test.YtopfhinnamhoiaaStandB
import Derived.Test.YtopfhinnamhoiaaBuyB
import Derived.Test.YtopfhinnamhoiaaSpareA
import Derived.Test.YtopfhinnamhoiaaWearyB
namespace Go.Proofs.Ytopfhinnamhoiaa
open Go.RowKit Go.Bs Go.Yd Go.Pl Go.Sort

def rowY : Yrd := ⟨[40, 60, 40, 80], [40, 30, 60], [(0, 2)]⟩
def wayR : Rd := ⟨[⟨10, 5, 20, true⟩, ⟨20, 4, 50, true⟩, ⟨0, 9, 20, true⟩, ⟨30, 4, 30, true⟩], 3⟩
def lampsG : Gd := ⟨[⟨-1, ⟨0, 0⟩, 0, 0⟩, ⟨0, ⟨100, 200⟩, 1000, 3⟩, ⟨1, ⟨300, 500⟩, 600, 10⟩], 10000⟩
theorem rowV : StandR rowY = ([0, 1, 3], 0) := by kernel_rfl
theorem wayV : (buyR wayR).1 = [0, 1] ∧ (buyR wayR).2.1 = 320 ∧ (buyR wayR).2.2.2 = 0 := by decide
theorem lampsV : spareR lampsG 2 = (100, 0) := by decide
theorem wearyV : wearyR 300 1200 [200, 300, 250, 250, 300] = (4, 2, 0) := by decide

/-- A new block that reads as a list. -/
theorem cells_new {α : Type} (w : World) (T : TypeId) (sz : Nat) (enc : α → List Value) (hen : ∀ x, (enc x).length = sz) (l : List α) : Cells (w.alloc (.cells (l.flatMap enc).toArray T)) (some ⟨w.heap.size, 0, none⟩) sz enc l := fun i x hi =>
  ⟨w.heap.size, 0, rfl, fun j y hj => by
    have h := flatMap_get hen l i j x y hi hj
    have := (Blk.new w T (l.flatMap enc)).cell h
    simpa using this⟩

set_option maxRecDepth 100000 in
theorem row_any (w : World) : Calls Try.prog 70 #[] w fun e w' => ∃ A1 A2 A3, e = .returned (.agg #[.slice A1 4 4, .slice A2 3 3, .slice A3 1 1]) ∧ YdAt w' rowY A1 A2 A3 ∧ Below w.heap.size w w' := by
  go_enter Try.func70, Try.ntmps70
  go_wp2
  refine bodyPost_ret (v := .agg #[.slice (some ⟨w.heap.size + 1, 0, none⟩) 4 4, .slice (some ⟨w.heap.size + 2, 0, none⟩) 3 3, .slice (some ⟨w.heap.size + 3, 0, none⟩) 1 1]) (by simp [results, Try.results70, go_sem]) rfl ?_
  have a1 := cells_new (w.alloc (.cells #[.slice (some ⟨w.heap.size + 1, 0, none⟩) 4 4, .slice (some ⟨w.heap.size + 1 + 1, 0, none⟩) 3 3, .slice (some ⟨w.heap.size + 1 + 1 + 1, 0, none⟩) 1 1] 61)) 3 1 encI encI_len [40, 60, 40, 80]
  have a2 := cells_new ((w.alloc (.cells #[.slice (some ⟨w.heap.size + 1, 0, none⟩) 4 4, .slice (some ⟨w.heap.size + 1 + 1, 0, none⟩) 3 3, .slice (some ⟨w.heap.size + 1 + 1 + 1, 0, none⟩) 1 1] 61)).alloc (.cells #[.int .i64 40, .int .i64 60, .int .i64 40, .int .i64 80] 3)) 3 1 encI encI_len [40, 30, 60]
  have a3 := cells_new (((w.alloc (.cells #[.slice (some ⟨w.heap.size + 1, 0, none⟩) 4 4, .slice (some ⟨w.heap.size + 1 + 1, 0, none⟩) 3 3, .slice (some ⟨w.heap.size + 1 + 1 + 1, 0, none⟩) 1 1] 61)).alloc (.cells #[.int .i64 40, .int .i64 60, .int .i64 40, .int .i64 80] 3)).alloc (.cells #[.int .i64 40, .int .i64 30, .int .i64 60] 3)) 64 2 encP (fun _ => rfl) [(0, 2)]
  simp only [World.size_alloc] at a1 a2 a3
  exact ⟨_, _, _, rfl, ⟨(a1.alloc _).alloc _, a2.alloc _, a3⟩, (((Below.refl _ _).alloc (Nat.le_refl _) _).alloc (by simp) _).alloc (by simp; omega) _ |>.alloc (by simp; omega) _⟩

set_option maxRecDepth 100000 in
theorem way_any (w : World) : Calls Try.prog 68 #[] w fun e w' => ∃ A, e = .returned (.agg #[.slice A 4 4, .int .i64 3]) ∧ RdAt w' A wayR ∧ Below w.heap.size w w' := by
  go_enter Try.func68, Try.ntmps68
  go_wp2
  refine bodyPost_ret (v := .agg #[.slice (some ⟨w.heap.size + 1, 0, none⟩) 4 4, .int .i64 3]) (by simp [results, Try.results68, go_sem]) rfl ?_
  have a1 := cells_new (w.alloc (.cells #[.slice (some ⟨w.heap.size + 1, 0, none⟩) 4 4, .int .i64 3] 92)) 123 4 Mkt.enc (fun _ => rfl) wayR.days
  simp only [World.size_alloc] at a1
  exact ⟨_, rfl, a1, ((Below.refl _ _).alloc (Nat.le_refl _) _).alloc (by simp) _⟩

set_option maxRecDepth 100000 in
theorem lamps_any (w : World) : Calls Try.prog 69 #[] w fun e w' => ∃ A, e = .returned (.agg #[.slice A 3 3, .int .i64 10000]) ∧ GdAt w' A lampsG ∧ Below w.heap.size w w' := by
  go_enter Try.func69, Try.ntmps69
  go_wp2
  refine bodyPost_ret (v := .agg #[.slice (some ⟨w.heap.size + 1, 0, none⟩) 3 3, .int .i64 10000]) (by simp [results, Try.results69, go_sem]) rfl ?_
  have a1 := cells_new (w.alloc (.cells #[.slice (some ⟨w.heap.size + 1, 0, none⟩) 3 3, .int .i64 10000] 43)) 136 5 Nd.enc (fun _ => rfl) lampsG.nodes
  simp only [World.size_alloc] at a1
  exact ⟨_, rfl, a1, ((Below.refl _ _).alloc (Nat.le_refl _) _).alloc (by simp) _⟩

set_option maxRecDepth 100000 in
set_option maxHeartbeats 1000000 in
theorem ints_any (A B : Option Addr) (n m c d : Nat) (l1 l2 : List Int) (w : World) (h1 : l1.length = n) (h2 : l2.length = m) (m1 : n ≤ 1000000000) (m2 : m ≤ 1000000000) (hA : Cells w A 1 encI l1) (hB : Cells w B 1 encI l2) :
    Calls Try.prog 44 #[.slice A n c, .slice B m d] w fun e w' => e = .returned (.bool (decide (l1 = l2))) ∧ Below w.heap.size w w' := by
  by_cases hnm : n = m
  · subst hnm
    generalize hres : decide (l1 = l2) = res
    have Hres := Lib.hid hres
    clear hres
    go_enter Try.func44, Try.ntmps44
    go_wp2
    go_loopw [5] (fun x wr => ∃ k : Nat, x = .int .i64 k ∧ k ≤ n ∧ Hid (l1.take k = l2.take k) ∧ Below w.heap.size w wr) (fun x _ => n - (intOf x).toNat)
    case atStart => exact ⟨0, rfl, by omega, Lib.hid (by simp), Below.refl _ _⟩
    case round =>
      obtain ⟨k, rfl, hk, Hk, hb⟩ := hrel
      by_cases hlt : k < n
      · have hlt' : (k : Int) < n := by omega
        have hk0 : (0 : Int) ≤ k := by omega
        go_upto_region 6 with fail
        refine Dr.wp_region_plan 9 [] (.q [0, 1, 2, 3, 4, 5, 6, 7, 8] .done) (by kernel_rfl) (by kernel_rfl) ?_
        have hb2 := hb.drew
        clear hb
        generalize World.drew _ = W at *
        have k1 : k < l1.length := by rw [h1]; exact hlt
        have k2 : k < l2.length := by rw [h2]; exact hlt
        obtain ⟨b1, o1, rfl, -, d1⟩ := (hA.ext hb2).at1 k1 rfl
        obtain ⟨b2, o2, rfl, -, d2⟩ := (hB.ext hb2).at1 k2 rfl
        have q1 := Dr.cell0 d1
        have q2 := Dr.cell0 d2
        refine Dr.plan_q (l := [_, _, _, _, _, _, _, _, _]) rfl (fun K hK => ?_)
        iterate 9 (go_big_quiet_step (fail))
        refine wpQuiet_nil (hK _ ?_); clear hK K
        refine Dr.plan_end rfl ?_
        clear q1 q2 d1 d2
        cases hq : (l1[k] != l2[k])
        · have Hn := Lib.hid (show l1.take (k + 1) = l2.take (k + 1) by
            rw [List.take_succ_eq_append_getElem k1, List.take_succ_eq_append_getElem k2, Hk.out]
            simp at hq
            rw [hq])
          clear hq
          go_wp2
          go_roundw
          case rel => exact ⟨k + 1, by go_num, by omega, Hn, hb2⟩
          case measure => simp [intOf]; omega
        · have Hr := Lib.hid (show res = false by
            rw [← Hres.out]
            refine decide_eq_false (fun e => ?_)
            subst e
            simp at hq)
          clear hq
          go_wp2
          go_ret
          exact ⟨ret_congr (bool_congr Hr.out.symm), hb2⟩
      · obtain rfl : k = n := by omega
        have Hr := Lib.hid (show res = true by
          rw [← Hres.out]
          have e := Hk.out
          rw [List.take_of_length_le (by omega), List.take_of_length_le (by omega)] at e
          exact decide_eq_true e)
        go_wp2
        go_ret
        exact ⟨ret_congr (bool_congr Hr.out.symm), hb⟩
  · have hr : decide (l1 = l2) = false := decide_eq_false (fun e => hnm (by rw [← h1, ← h2, e]))
    have Hr := Lib.hid hr
    have hnm' : ((n : Int) != (m : Int)) = true := by simp; omega
    clear hr
    go_enter Try.func44, Try.ntmps44
    go_wp2
    go_ret
    exact ⟨ret_congr (bool_congr Hr.out.symm), Below.refl _ _⟩
end Go.Proofs.Ytopfhinnamhoiaa

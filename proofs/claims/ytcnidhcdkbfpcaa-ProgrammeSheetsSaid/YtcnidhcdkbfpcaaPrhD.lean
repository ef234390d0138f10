/- Walk: copies and comparisons of rows; the show of the examples. -/
import Derived.Test.YtcnidhcdkbfpcaaPrhC
namespace Go.Proofs.Ytcnidhcdkbfpcaa
open Go.RowKit Go.Bs Go.Pg Go.Pl Go.Sort
theorem list_own (A : Option Addr) (n c : Nat) (l : List Int) (w : World) (hn : l.length = n) (hm : n ≤ 1000000000) (hd : Cells w A 1 encI l) :
    Calls Try.prog 27 #[.slice A n c] w fun e w' => ∃ v, e = .returned v ∧ OwnL w' w.heap.size 3 1 encI v l ∧ Below w.heap.size w w' := by
  have ho : OwnL (w.alloc (.cells #[] 3)) w.heap.size 3 1 encI (.slice (some ⟨w.heap.size, 0, none⟩) 0 0) ([] : List Int) := ⟨rfl, .inr ⟨w.heap.size, 0, #[], rfl, Nat.le_refl _, Blk.new w 3 [], Nat.le_refl _, by unfold maxLen; omega, rfl, rfl⟩⟩
  have hd := hd.ext (ext_alloc w (.cells #[] 3))
  have hba := ext_alloc w (.cells #[] 3)
  go_enter Try.func27, Try.ntmps27
  go_wp2_with (at_builtin; refine app_ints 23 3 et23 rfl _ _ rfl w.heap.size _ [] rfl ho A n c l hn rfl hd (by simp; omega) (by simp) ?_; intro v' w' hown hb _ _)
  go_ret
  exact ⟨_, rfl, hown, hba.trans hb⟩
theorem list_any (A : Option Addr) (n c : Nat) (l : List Int) (w : World) (hn : l.length = n) (hm : n ≤ 1000000000) (hd : Cells w A 1 encI l) :
    Calls Try.prog 27 #[.slice A n c] w fun e w' => ∃ v, e = .returned v ∧ FreshL w w' 1 encI v l ∧ Below w.heap.size w w' :=
  (list_own A n c l w hn hm hd).mono (by rintro e w' ⟨v, rfl, ho, hb⟩; exact ⟨v, rfl, FreshL.of_own ho encI_len (Nat.le_refl _), hb⟩)

theorem cells_new {α : Type} (w : World) (T : TypeId) (sz : Nat) (enc : α → List Value) (hen : ∀ x, (enc x).length = sz) (l : List α) : Cells (w.alloc (.cells (l.flatMap enc).toArray T)) (some ⟨w.heap.size, 0, none⟩) sz enc l := fun i x hi =>
  ⟨w.heap.size, 0, rfl, fun j y hj => by
    have h := flatMap_get hen l i j x y hi hj
    have := (Blk.new w T (l.flatMap enc)).cell h
    simpa using this⟩

set_option maxRecDepth 100000 in
set_option maxHeartbeats 1000000 in
theorem ints_any (A B : Option Addr) (n m c d : Nat) (l1 l2 : List Int) (w : World) (h1 : l1.length = n) (h2 : l2.length = m) (m1 : n ≤ 1000000000) (m2 : m ≤ 1000000000) (hA : Cells w A 1 encI l1) (hB : Cells w B 1 encI l2) :
    Calls Try.prog 20 #[.slice A n c, .slice B m d] w fun e w' => e = .returned (.bool (decide (l1 = l2))) ∧ Below w.heap.size w w' := by
  by_cases hnm : n = m
  · subst hnm
    generalize hres : decide (l1 = l2) = res
    have Hres := Lib.hid hres
    clear hres
    go_enter Try.func20, Try.ntmps20
    go_wp2
    go_loopw [5] (fun x wr => ∃ k : Nat, x = .int .i64 k ∧ k ≤ n ∧ Hid (l1.take k = l2.take k) ∧ Below w.heap.size w wr) (fun x _ => n - (intOf x).toNat)
    case atStart => exact ⟨0, rfl, by omega, Lib.hid (by simp), Below.refl _ _⟩
    case round =>
      obtain ⟨k, rfl, hk, Hk, hb⟩ := hrel
      by_cases hlt : k < n
      · have hlt' : (k : Int) < n := by omega
        have hk0 : (0 : Int) ≤ k := by omega
        go_upto_region 6 with fail
        refine Dr.wp_region_plan 9 [] (.q [0, 1, 2, 3, 4, 5, 6, 7, 8] .done) (by kernel_rfl) (by kernel_rfl) ?_
        have hb2 := hb.drew
        clear hb
        generalize World.drew _ = W at *
        have k1 : k < l1.length := by rw [h1]; exact hlt
        have k2 : k < l2.length := by rw [h2]; exact hlt
        obtain ⟨b1, o1, rfl, -, d1⟩ := (hA.ext hb2).at1 k1 rfl
        obtain ⟨b2, o2, rfl, -, d2⟩ := (hB.ext hb2).at1 k2 rfl
        have q1 := Dr.cell0 d1
        have q2 := Dr.cell0 d2
        refine Dr.plan_q (l := [_, _, _, _, _, _, _, _, _]) rfl (fun K hK => ?_)
        iterate 9 (go_big_quiet_step (fail))
        refine wpQuiet_nil (hK _ ?_); clear hK K
        refine Dr.plan_end rfl ?_
        clear q1 q2 d1 d2
        cases hq : (l1[k] != l2[k])
        · have Hn := Lib.hid (show l1.take (k + 1) = l2.take (k + 1) by
            rw [List.take_succ_eq_append_getElem k1, List.take_succ_eq_append_getElem k2, Hk.out]
            simp at hq
            rw [hq])
          clear hq
          go_wp2
          go_roundw
          case rel => exact ⟨k + 1, by go_num, by omega, Hn, hb2⟩
          case measure => simp [intOf]; omega
        · have Hr := Lib.hid (show res = false by
            rw [← Hres.out]
            refine decide_eq_false (fun e => ?_)
            subst e
            simp at hq)
          clear hq
          go_wp2
          go_ret
          exact ⟨ret_congr (bool_congr Hr.out.symm), hb2⟩
      · obtain rfl : k = n := by omega
        have Hr := Lib.hid (show res = true by
          rw [← Hres.out]
          have e := Hk.out
          rw [List.take_of_length_le (by omega), List.take_of_length_le (by omega)] at e
          exact decide_eq_true e)
        go_wp2
        go_ret
        exact ⟨ret_congr (bool_congr Hr.out.symm), hb⟩
  · have hr : decide (l1 = l2) = false := decide_eq_false (fun e => hnm (by rw [← h1, ← h2, e]))
    have Hr := Lib.hid hr
    have hnm' : ((n : Int) != (m : Int)) = true := by simp; omega
    clear hr
    go_enter Try.func20, Try.ntmps20
    go_wp2
    go_ret
    exact ⟨ret_congr (bool_congr Hr.out.symm), Below.refl _ _⟩

/-- the show of the examples -/
def evS : Sh := ⟨[⟨10, 40, 1, [1], false⟩, ⟨8, 60, 2, [6, 10], false⟩, ⟨12, 50, 1, [9], true⟩], [1, 0, 0, 0], [3, 5], [2, 4], 9, 1, []⟩
theorem cells_of {α : Type} {w : World} {B T sz : Nat} {enc : α → List Value} {l : List α} {cs : List Value} (hen : ∀ x, (enc x).length = sz) (h : Blk w B T cs) (hcs : cs = l.flatMap enc) : Cells w (some ⟨B, 0, none⟩) sz enc l := fun i x hi =>
  ⟨B, 0, rfl, fun j y hj => by
    have h2 := flatMap_get hen l i j x y hi hj
    rw [← hcs] at h2
    have := h.cell h2
    simpa using this⟩
set_option maxRecDepth 100000 in
set_option maxHeartbeats 1000000 in
theorem evening_any (w : World) : Calls Try.prog 43 #[] w fun e w' => (∃ p, e = .returned (shV evS p) ∧ ShM w' evS p) ∧ Below w.heap.size w w' := by
  have hb0 := ext_alloc w (.cells #[.slice none 0 0, .slice none 0 0, .slice none 0 0, .slice none 0 0, .int .i64 0, .int .i64 0, .slice none 0 0] 35)
  go_enter Try.func43, Try.ntmps43
  go_upto_region 1 with fail
  have hZ := Blk.new w 35 [.slice none 0 0, .slice none 0 0, .slice none 0 0, .slice none 0 0, .int .i64 0, .int .i64 0, .slice none 0 0]
  change Blk (w.alloc (.cells #[.slice none 0 0, .slice none 0 0, .slice none 0 0, .slice none 0 0, .int .i64 0, .int .i64 0, .slice none 0 0] 35)) _ _ _ at hZ
  go_wp2
  have hB : ∀ (o0 o1 o2 o3 o4 o5 o6 o7 : Obj), ((((((((w.alloc o0).alloc o1).alloc o2).alloc o3).alloc o4).alloc o5).alloc o6).alloc o7).heap[w.heap.size]? = some o0 ∧ ((((((((w.alloc o0).alloc o1).alloc o2).alloc o3).alloc o4).alloc o5).alloc o6).alloc o7).heap[w.heap.size + 1]? = some o1 ∧ ((((((((w.alloc o0).alloc o1).alloc o2).alloc o3).alloc o4).alloc o5).alloc o6).alloc o7).heap[w.heap.size + 1 + 1]? = some o2 ∧ ((((((((w.alloc o0).alloc o1).alloc o2).alloc o3).alloc o4).alloc o5).alloc o6).alloc o7).heap[w.heap.size + 1 + 1 + 1]? = some o3 ∧
      ((((((((w.alloc o0).alloc o1).alloc o2).alloc o3).alloc o4).alloc o5).alloc o6).alloc o7).heap[w.heap.size + 1 + 1 + 1 + 1]? = some o4 ∧ ((((((((w.alloc o0).alloc o1).alloc o2).alloc o3).alloc o4).alloc o5).alloc o6).alloc o7).heap[w.heap.size + 1 + 1 + 1 + 1 + 1]? = some o5 ∧ ((((((((w.alloc o0).alloc o1).alloc o2).alloc o3).alloc o4).alloc o5).alloc o6).alloc o7).heap[w.heap.size + 1 + 1 + 1 + 1 + 1 + 1]? = some o6 ∧ ((((((((w.alloc o0).alloc o1).alloc o2).alloc o3).alloc o4).alloc o5).alloc o6).alloc o7).heap[w.heap.size + 1 + 1 + 1 + 1 + 1 + 1 + 1]? = some o7 ∧
      Below w.heap.size w ((((((((w.alloc o0).alloc o1).alloc o2).alloc o3).alloc o4).alloc o5).alloc o6).alloc o7) := by
    intro o0 o1 o2 o3 o4 o5 o6 o7
    have hp : ∀ (x : World) (o : Obj), (x.alloc o).heap = x.heap.push o := fun _ _ => rfl
    refine ⟨?_, ?_, ?_, ?_, ?_, ?_, ?_, ?_, ?_⟩
    · simp only [hp, Array.getElem?_push, Array.size_push]; repeat (first | rfl | (rw [if_pos (by omega)]) | (rw [if_neg (by omega)]))
    · simp only [hp, Array.getElem?_push, Array.size_push]; repeat (first | rfl | (rw [if_pos (by omega)]) | (rw [if_neg (by omega)]))
    · simp only [hp, Array.getElem?_push, Array.size_push]; repeat (first | rfl | (rw [if_pos (by omega)]) | (rw [if_neg (by omega)]))
    · simp only [hp, Array.getElem?_push, Array.size_push]; repeat (first | rfl | (rw [if_pos (by omega)]) | (rw [if_neg (by omega)]))
    · simp only [hp, Array.getElem?_push, Array.size_push]; repeat (first | rfl | (rw [if_pos (by omega)]) | (rw [if_neg (by omega)]))
    · simp only [hp, Array.getElem?_push, Array.size_push]; repeat (first | rfl | (rw [if_pos (by omega)]) | (rw [if_neg (by omega)]))
    · simp only [hp, Array.getElem?_push, Array.size_push]; repeat (first | rfl | (rw [if_pos (by omega)]) | (rw [if_neg (by omega)]))
    · simp only [hp, Array.getElem?_push, Array.size_push]; repeat (first | rfl | (rw [if_pos (by omega)]) | (rw [if_neg (by omega)]))
    · exact ((((((((Below.refl _ _).alloc (Nat.le_refl _) _).alloc (by simp) _).alloc (by simp; omega) _).alloc (by simp; omega) _).alloc (by simp; omega) _).alloc (by simp; omega) _).alloc (by simp; omega) _).alloc (by simp; omega) _
  obtain ⟨h0, h1, h2, h3, h4, h5, h6, h7, hbl⟩ := hB (.cells #[.slice (some ⟨w.heap.size + 1 + 1 + 1 + 1, 0, none⟩) 3 3, .slice (some ⟨w.heap.size + 1 + 1 + 1 + 1 + 1, 0, none⟩) 4 4, .slice (some ⟨w.heap.size + 1 + 1 + 1 + 1 + 1 + 1, 0, none⟩) 2 2, .slice (some ⟨w.heap.size + 1 + 1 + 1 + 1 + 1 + 1 + 1, 0, none⟩) 2 2, .int .i64 9, .int .i64 1, .slice none 0 0] 35) (.cells #[.int .u16 1] 47) (.cells #[.int .u16 6, .int .u16 10] 47) (.cells #[.int .u16 9] 47)
    (.cells #[.int .i64 10, .int .i64 40, .int .u16 1, .slice (some ⟨w.heap.size + 1, 0, none⟩) 1 1, .bool false, .int .i64 8, .int .i64 60, .int .u16 2, .slice (some ⟨w.heap.size + 1 + 1, 0, none⟩) 2 2, .bool false, .int .i64 12, .int .i64 50, .int .u16 1, .slice (some ⟨w.heap.size + 1 + 1 + 1, 0, none⟩) 1 1, .bool true] 82)
    (.cells #[.int .i64 1, .int .i64 0, .int .i64 0, .int .i64 0] 3) (.cells #[.int .i64 3, .int .i64 5] 3) (.cells #[.int .i64 2, .int .i64 4] 3)
  generalize (((((((w.alloc _).alloc _).alloc _).alloc _).alloc _).alloc _).alloc _).alloc _ = V at *
  have k0 : V.cell? ⟨w.heap.size, 0, none⟩ = some (.slice (some ⟨w.heap.size + 1 + 1 + 1 + 1, 0, none⟩) 3 3) := by simp [World.cell?, h0]
  have k1 : V.cell? ⟨w.heap.size, 1, none⟩ = some (.slice (some ⟨w.heap.size + 1 + 1 + 1 + 1 + 1, 0, none⟩) 4 4) := by simp [World.cell?, h0]
  have k2 : V.cell? ⟨w.heap.size, 2, none⟩ = some (.slice (some ⟨w.heap.size + 1 + 1 + 1 + 1 + 1 + 1, 0, none⟩) 2 2) := by simp [World.cell?, h0]
  have k3 : V.cell? ⟨w.heap.size, 3, none⟩ = some (.slice (some ⟨w.heap.size + 1 + 1 + 1 + 1 + 1 + 1 + 1, 0, none⟩) 2 2) := by simp [World.cell?, h0]
  have k4 : V.cell? ⟨w.heap.size, 4, none⟩ = some (.int .i64 9) := by simp [World.cell?, h0]
  have k5 : V.cell? ⟨w.heap.size, 5, none⟩ = some (.int .i64 1) := by simp [World.cell?, h0]
  have k6 : V.cell? ⟨w.heap.size, 6, none⟩ = some (.slice none 0 0) := by simp [World.cell?, h0]
  refine bodyPost_ret (v := shV evS ⟨[⟨⟨10, 40, 1, [1], false⟩, some ⟨w.heap.size + 1, 0, none⟩, 1⟩, ⟨⟨8, 60, 2, [6, 10], false⟩, some ⟨w.heap.size + 1 + 1, 0, none⟩, 2⟩, ⟨⟨12, 50, 1, [9], true⟩, some ⟨w.heap.size + 1 + 1 + 1, 0, none⟩, 1⟩], some ⟨w.heap.size + 1 + 1 + 1 + 1, 0, none⟩, some ⟨w.heap.size + 1 + 1 + 1 + 1 + 1, 0, none⟩, some ⟨w.heap.size + 1 + 1 + 1 + 1 + 1 + 1, 0, none⟩, some ⟨w.heap.size + 1 + 1 + 1 + 1 + 1 + 1 + 1, 0, none⟩, none, 3, 4, 2, 2, 0⟩) (by simp [results, Try.results43, go_sem, k0, k1, k2, k3, k4, k5, k6, shV, evS]) rfl ?_
  refine ⟨⟨_, rfl, rfl, cells_of acv_len h4 rfl, ?_, cells_of encI_len h5 rfl, cells_of encI_len h6 rfl, cells_of encI_len h7 rfl, fun i x h => by simp [evS] at h, ?_, ?_⟩, hbl⟩
  · intro x hx
    simp only [List.mem_cons, List.not_mem_nil, or_false] at hx
    rcases hx with rfl | rfl | rfl
    · exact cells_of encU_len h1 rfl
    · exact cells_of encU_len h2 rfl
    · exact cells_of encU_len h3 rfl
  · intro a ha
    simp only [evS, List.mem_cons, List.not_mem_nil, or_false] at ha
    rcases ha with rfl | rfl | rfl <;> decide
  · decide
end Go.Proofs.Ytcnidhcdkbfpcaa

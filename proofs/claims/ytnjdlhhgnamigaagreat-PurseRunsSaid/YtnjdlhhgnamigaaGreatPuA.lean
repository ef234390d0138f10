/- Walks of small words: within, money, sum, list, ints, pot.pay; how the purse's data lie in memory. -/
import Derived.Shelf.Abstract
import Derived.Deep.DeepCutAuto
import Derived.Maps.RangeWalk
import Derived.Test.YtnjdlhhgnamigaaGreatPlnA
import Derived.Test.YtnjdlhhgnamigaaGreatProg
namespace Go.Proofs.YtnjdlhhgnamigaaGreat
open Go.RowKit Go.Bs Go.Pu Go.Pl Go.Sort

def Cty.enc (m : Cty) : List Value := [.int .i64 m.takings, .int .i64 m.num, .int .i64 m.den, .int .i64 m.tax]
def Cty.val (m : Cty) : Value := .agg #[.int .i64 m.takings, .int .i64 m.num, .int .i64 m.den, .int .i64 m.tax]
def Ctr.enc (m : Ctr) : List Value := [.int .i64 m.rank, .int .i64 m.wage, .int .i64 m.share]
def Ctr.val (m : Ctr) : Value := .agg #[.int .i64 m.rank, .int .i64 m.wage, .int .i64 m.share]
def Pol.val (m : Pol) : Value := .agg #[.int .i64 m.least, .int .i64 m.part, .int .i64 m.most]
theorem sz3 : ∀ w, (sizeOf 3).run Tryz.prog w = .ok 1 w := fun w => by kernel_rfl
theorem info3 : (Tryz.prog.info? 3).map (fun i => (i.zero, i.size, i.bytes)) = some (some (.int .i64 0), 1, 8) := by kernel_rfl
theorem et27 : ElemT Tryz.prog 22 3 1 8 := ElemT.mk Tryz.underlying22 info3 rfl
theorem within_any (n lo hi : Int) (w : World) :
    Calls Tryz.prog 41 #[.int .i64 n, .int .i64 lo, .int .i64 hi] w fun e w' => e = .returned (.bool (decide (lo ≤ n ∧ n ≤ hi))) ∧ w = w' := by
  generalize hres : decide (lo ≤ n ∧ n ≤ hi) = res
  have Hres := Lib.hid hres
  clear hres
  by_cases h : lo ≤ n
  · go_enter Tryz.func41, Tryz.ntmps41
    go_wp2
    go_ret
    exact ⟨ret_congr (bool_congr (by rw [← Hres.out]; simp [h])), rfl⟩
  · go_enter Tryz.func41, Tryz.ntmps41
    go_wp2
    go_ret
    exact ⟨ret_congr (bool_congr (by rw [← Hres.out]; simp; omega)), rfl⟩
theorem within_t {n lo hi : Int} (h : lo ≤ n ∧ n ≤ hi) (w : World) :
    Calls Tryz.prog 41 #[.int .i64 n, .int .i64 lo, .int .i64 hi] w fun e w' => e = .returned (.bool true) ∧ w = w' := by
  have := within_any n lo hi w
  rwa [decide_eq_true h] at this
theorem within_f {n lo hi : Int} (h : ¬ (lo ≤ n ∧ n ≤ hi)) (w : World) :
    Calls Tryz.prog 41 #[.int .i64 n, .int .i64 lo, .int .i64 hi] w fun e w' => e = .returned (.bool false) ∧ w = w' := by
  have := within_any n lo hi w
  rwa [decide_eq_false h] at this

theorem In_any (n lo hi : Int) (w : World) :
    Calls Tryz.prog 6 #[.int .i64 n, .int .i64 lo, .int .i64 hi] w fun e w' => e = .returned (.bool (decide (lo ≤ n ∧ n ≤ hi))) ∧ w = w' := by
  generalize hres : decide (lo ≤ n ∧ n ≤ hi) = res
  have Hres := Lib.hid hres
  clear hres
  by_cases h : lo ≤ n
  · go_enter Tryz.func6, Tryz.ntmps6
    go_wp2
    go_ret
    exact ⟨ret_congr (bool_congr (by rw [← Hres.out]; simp [h])), rfl⟩
  · go_enter Tryz.func6, Tryz.ntmps6
    go_wp2
    go_ret
    exact ⟨ret_congr (bool_congr (by rw [← Hres.out]; simp; omega)), rfl⟩
theorem In_t {n lo hi : Int} (h : lo ≤ n ∧ n ≤ hi) (w : World) :
    Calls Tryz.prog 6 #[.int .i64 n, .int .i64 lo, .int .i64 hi] w fun e w' => e = .returned (.bool true) ∧ w = w' := by
  have := In_any n lo hi w
  rwa [decide_eq_true h] at this
theorem In_f {n lo hi : Int} (h : ¬ (lo ≤ n ∧ n ≤ hi)) (w : World) :
    Calls Tryz.prog 6 #[.int .i64 n, .int .i64 lo, .int .i64 hi] w fun e w' => e = .returned (.bool false) ∧ w = w' := by
  have := In_any n lo hi w
  rwa [decide_eq_false h] at this


theorem money_any (n : Int) (w : World) : Calls Tryz.prog 44 #[.int .i64 n] w fun e w' => e = .returned (.bool (monB n)) ∧ w = w' := by
  unfold monB
  have Hc := Lib.hid (within_any n 0 1000000000000 w)
  generalize decide (0 ≤ n ∧ n ≤ 1000000000000) = q at *
  go_enter Tryz.func44, Tryz.ntmps44
  go_wp2_with fail
  refine Hc.out.mono ?_; rintro e w1 ⟨rfl, rfl⟩
  go_wp2
  go_ret
  exact ⟨rfl, rfl⟩
theorem moneyR_any (n : Int) (w : World) : Calls Tryz.prog 31 #[.int .i64 n] w fun e w' => e = .returned (.bool (monB n)) ∧ w = w' := by
  unfold monB
  have Hc := Lib.hid (In_any n 0 1000000000000 w)
  generalize decide (0 ≤ n ∧ n ≤ 1000000000000) = q at *
  go_enter Tryz.func31, Tryz.ntmps31
  go_wp2_with fail
  refine Hc.out.mono ?_; rintro e w1 ⟨rfl, rfl⟩
  go_wp2
  go_ret
  exact ⟨rfl, rfl⟩
theorem mon_ok (l : List Int) (w : World) : PredB Tryz.prog 44 #[] (Value.int .i64) monB w l := by
  intro W x hx hb
  exact (money_any x W).mono (by rintro e w1 ⟨rfl, rfl⟩; exact ⟨rfl, Below.refl _ _⟩)

set_option maxHeartbeats 800000 in
theorem sum_any (A : Option Addr) (n cap : Nat) (l : List Int) (w : World) (hn : l.length = n) (hm : n ≤ 100) (hd : Cells w A 1 encI l) (hv : ∀ x ∈ l, 0 ≤ x ∧ x ≤ 10000000000000000) :
    Calls Tryz.prog 47 #[.slice A n cap] w fun e w' => e = .returned (.int .i64 (isum l)) ∧ w = w' := by
  have Hn := Lib.hid hn
  clear hn
  have Hv := Lib.hid hv
  clear hv
  go_enter Tryz.func47, Tryz.ntmps47
  go_wp2
  go_loop [2, 4, 7] (fun s _ t => ∃ (k : Nat) (x : Int), k ≤ n ∧ t = .int .i64 k ∧ s = .int .i64 x ∧ (0 ≤ x ∧ x ≤ 1000000000000000000) ∧ Hid (x = isum (l.take k))) (fun _ _ t => n - (intOf t).toNat)
  case atStart => exact ⟨0, 0, by omega, rfl, rfl, by omega, Lib.hid rfl⟩
  case round =>
    obtain ⟨k, x, hk, rfl, rfl, hx, Hx⟩ := hrel
    by_cases hlt : k < n
    · have hk1 : k < l.length := by rw [Hn.out]; exact hlt
      obtain ⟨b, off, rfl, hbl, c0⟩ := hd.at1 hk1 rfl
      have h2 := Hv.out l[k] (List.getElem_mem _)
      have h1 : 0 ≤ x + l[k] ∧ x + l[k] ≤ 1000000000000000000 := by
        have hs := isum_map_take_succ id l k hk1
        have h3 := isum_map_bd id (l.take (k + 1)) 10000000000000000 (fun x hx => Hv.out x (List.mem_of_mem_take hx))
        have h4 : ((l.take (k + 1)).length : Int) ≤ 100 := by simp; omega
        simp only [List.map_id, id] at hs h3
        rw [hs, ← Hx.out] at h3
        omega
      have H1 := Lib.hid (isum_map_take_succ id l k hk1)
      have hz : (0 : Int) ≤ k := by omega
      go_wp2
      go_round
      case rel => exact ⟨k + 1, _, by omega, by go_num, rfl, h1, Lib.hid (by have := H1.out; simp only [List.map_id, id] at this; rw [this, ← Hx.out])⟩
      case measure => simp [intOf]; omega
    · go_wp2
      go_ret
      exact ⟨ret_congr (int_congr (by rw [Hx.out, List.take_of_length_le (by rw [Hn.out]; omega)])), rfl⟩

theorem list_own (A : Option Addr) (n c : Nat) (l : List Int) (w : World) (hn : l.length = n) (hm : n ≤ 1000000000) (hd : Cells w A 1 encI l) :
    Calls Tryz.prog 30 #[.slice A n c] w fun e w' => ∃ v, e = .returned v ∧ OwnL w' w.heap.size 3 1 encI v l ∧ Below w.heap.size w w' := by
  have ho : OwnL w w.heap.size 3 1 encI (.slice none 0 0) ([] : List Int) := OwnL.nil
  go_enter Tryz.func30, Tryz.ntmps30
  go_wp2_with (at_builtin; refine app_ints 22 3 et27 rfl _ _ rfl w.heap.size _ [] rfl ho A n c l hn rfl hd (by simp; omega) (Nat.le_refl _) ?_; intro v' w' hown hb _ _)
  go_ret
  exact ⟨_, rfl, hown, hb⟩
theorem list_any (A : Option Addr) (n c : Nat) (l : List Int) (w : World) (hn : l.length = n) (hm : n ≤ 1000000000) (hd : Cells w A 1 encI l) :
    Calls Tryz.prog 30 #[.slice A n c] w fun e w' => ∃ v, e = .returned v ∧ FreshL w w' 1 encI v l ∧ Below w.heap.size w w' :=
  (list_own A n c l w hn hm hd).mono (by rintro e w' ⟨v, rfl, ho, hb⟩; exact ⟨v, rfl, FreshL.of_own ho encI_len (Nat.le_refl _), hb⟩)

theorem cells_new {α : Type} (w : World) (T : TypeId) (sz : Nat) (enc : α → List Value) (hen : ∀ x, (enc x).length = sz) (l : List α) : Cells (w.alloc (.cells (l.flatMap enc).toArray T)) (some ⟨w.heap.size, 0, none⟩) sz enc l := fun i x hi =>
  ⟨w.heap.size, 0, rfl, fun j y hj => by
    have h := flatMap_get hen l i j x y hi hj
    have := (Blk.new w T (l.flatMap enc)).cell h
    simpa using this⟩

set_option maxRecDepth 100000 in
set_option maxHeartbeats 1000000 in
theorem ints_any (A B : Option Addr) (n m c d : Nat) (l1 l2 : List Int) (w : World) (h1 : l1.length = n) (h2 : l2.length = m) (m1 : n ≤ 1000000000) (m2 : m ≤ 1000000000) (hA : Cells w A 1 encI l1) (hB : Cells w B 1 encI l2) :
    Calls Tryz.prog 24 #[.slice A n c, .slice B m d] w fun e w' => e = .returned (.bool (decide (l1 = l2))) ∧ Below w.heap.size w w' := by
  by_cases hnm : n = m
  · subst hnm
    generalize hres : decide (l1 = l2) = res
    have Hres := Lib.hid hres
    clear hres
    go_enter Tryz.func24, Tryz.ntmps24
    go_wp2
    go_loopw [5] (fun x wr => ∃ k : Nat, x = .int .i64 k ∧ k ≤ n ∧ Hid (l1.take k = l2.take k) ∧ Below w.heap.size w wr) (fun x _ => n - (intOf x).toNat)
    case atStart => exact ⟨0, rfl, by omega, Lib.hid (by simp), Below.refl _ _⟩
    case round =>
      obtain ⟨k, rfl, hk, Hk, hb⟩ := hrel
      by_cases hlt : k < n
      · have hlt' : (k : Int) < n := by omega
        have hk0 : (0 : Int) ≤ k := by omega
        go_upto_region 6 with fail
        refine Dr.wp_region_plan 9 [] (.q [0, 1, 2, 3, 4, 5, 6, 7, 8] .done) (by kernel_rfl) (by kernel_rfl) ?_
        have hb2 := hb.drew
        clear hb
        generalize World.drew _ = W at *
        have k1 : k < l1.length := by rw [h1]; exact hlt
        have k2 : k < l2.length := by rw [h2]; exact hlt
        obtain ⟨b1, o1, rfl, -, d1⟩ := (hA.ext hb2).at1 k1 rfl
        obtain ⟨b2, o2, rfl, -, d2⟩ := (hB.ext hb2).at1 k2 rfl
        have q1 := Dr.cell0 d1
        have q2 := Dr.cell0 d2
        refine Dr.plan_q (l := [_, _, _, _, _, _, _, _, _]) rfl (fun K hK => ?_)
        iterate 9 (go_big_quiet_step (fail))
        refine wpQuiet_nil (hK _ ?_); clear hK K
        refine Dr.plan_end rfl ?_
        clear q1 q2 d1 d2
        cases hq : (l1[k] != l2[k])
        · have Hn := Lib.hid (show l1.take (k + 1) = l2.take (k + 1) by
            rw [List.take_succ_eq_append_getElem k1, List.take_succ_eq_append_getElem k2, Hk.out]
            simp at hq
            rw [hq])
          clear hq
          go_wp2
          go_roundw
          case rel => exact ⟨k + 1, by go_num, by omega, Hn, hb2⟩
          case measure => simp [intOf]; omega
        · have Hr := Lib.hid (show res = false by
            rw [← Hres.out]
            refine decide_eq_false (fun e => ?_)
            subst e
            simp at hq)
          clear hq
          go_wp2
          go_ret
          exact ⟨ret_congr (bool_congr Hr.out.symm), hb2⟩
      · obtain rfl : k = n := by omega
        have Hr := Lib.hid (show res = true by
          rw [← Hres.out]
          have e := Hk.out
          rw [List.take_of_length_le (by omega), List.take_of_length_le (by omega)] at e
          exact decide_eq_true e)
        go_wp2
        go_ret
        exact ⟨ret_congr (bool_congr Hr.out.symm), hb⟩
  · have hr : decide (l1 = l2) = false := decide_eq_false (fun e => hnm (by rw [← h1, ← h2, e]))
    have Hr := Lib.hid hr
    have hnm' : ((n : Int) != (m : Int)) = true := by simp; omega
    clear hr
    go_enter Tryz.func24, Tryz.ntmps24
    go_wp2
    go_ret
    exact ⟨ret_congr (bool_congr Hr.out.symm), Below.refl _ _⟩

/-- pot.pay: what is left lies in a cell -/
theorem pay_any (B : Nat) (left n : Int) (w : World) (h1 : 0 ≤ left ∧ left ≤ 9000000000000000000) (h2 : 0 ≤ n ∧ n ≤ 9000000000000000000) (hc : Blk w B 99 [.int .i64 left]) :
    Calls Tryz.prog 48 #[.pointer (some ⟨B, 0, none⟩), .int .i64 n] w fun e w' => e = .returned (.int .i64 (min left n)) ∧ w' = w.setCell ⟨B, 0, none⟩ (.int .i64 (left - min left n)) := by
  have c0 : w.cell? ⟨B, 0, none⟩ = _ := hc.cell rfl
  have f0 := hc.free 0
  by_cases h : n < left
  · rw [show min left n = n by omega]
    clear hc
    go_enter Tryz.func48, Tryz.ntmps48
    go_wp2
    go_ret
    exact ⟨rfl, rfl⟩
  · rw [show min left n = left by omega]
    clear hc
    go_enter Tryz.func48, Tryz.ntmps48
    go_wp2
    go_ret
    exact ⟨rfl, rfl⟩
end Go.Proofs.YtnjdlhhgnamigaaGreat

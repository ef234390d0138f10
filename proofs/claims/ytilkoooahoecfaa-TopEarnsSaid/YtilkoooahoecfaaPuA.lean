/- Walks of small words: within, money, sum, list, ints, pot.pay; how the purse's data lie in memory. -/
import Derived.Shelf.Abstract
import Derived.Deep.DeepCutAuto
import Derived.Maps.RangeWalk
import Derived.Test.YtilkoooahoecfaaPlnA
import Derived.Test.YtilkoooahoecfaaProg
namespace Go.Proofs.Ytilkoooahoecfaa
open Go.RowKit Go.Bs Go.Pu Go.Pl Go.Sort

def Cty.enc (m : Cty) : List Value := [.int .i64 m.takings, .int .i64 m.num, .int .i64 m.den, .int .i64 m.tax]
def Cty.val (m : Cty) : Value := .agg #[.int .i64 m.takings, .int .i64 m.num, .int .i64 m.den, .int .i64 m.tax]
def Ctr.enc (m : Ctr) : List Value := [.int .i64 m.rank, .int .i64 m.wage, .int .i64 m.share]
def Ctr.val (m : Ctr) : Value := .agg #[.int .i64 m.rank, .int .i64 m.wage, .int .i64 m.share]
def Pol.val (m : Pol) : Value := .agg #[.int .i64 m.least, .int .i64 m.part, .int .i64 m.most]
theorem sz3 : ∀ w, (sizeOf 3).run Try.prog w = .ok 1 w := fun w => by kernel_rfl
theorem info3 : (Try.prog.info? 3).map (fun i => (i.zero, i.size, i.bytes)) = some (some (.int .i64 0), 1, 8) := by kernel_rfl
theorem et27 : ElemT Try.prog 59 3 1 8 := ElemT.mk Try.underlying59 info3 rfl
theorem within_any (n lo hi : Int) (w : World) :
    Calls Try.prog 62 #[.int .i64 n, .int .i64 lo, .int .i64 hi] w fun e w' => e = .returned (.bool (decide (lo ≤ n ∧ n ≤ hi))) ∧ w = w' := by
  generalize hres : decide (lo ≤ n ∧ n ≤ hi) = res
  have Hres := Lib.hid hres
  clear hres
  by_cases h : lo ≤ n
  · go_enter Try.func62, Try.ntmps62
    go_wp2
    go_ret
    exact ⟨ret_congr (bool_congr (by rw [← Hres.out]; simp [h])), rfl⟩
  · go_enter Try.func62, Try.ntmps62
    go_wp2
    go_ret
    exact ⟨ret_congr (bool_congr (by rw [← Hres.out]; simp; omega)), rfl⟩
theorem within_t {n lo hi : Int} (h : lo ≤ n ∧ n ≤ hi) (w : World) :
    Calls Try.prog 62 #[.int .i64 n, .int .i64 lo, .int .i64 hi] w fun e w' => e = .returned (.bool true) ∧ w = w' := by
  have := within_any n lo hi w
  rwa [decide_eq_true h] at this
theorem within_f {n lo hi : Int} (h : ¬ (lo ≤ n ∧ n ≤ hi)) (w : World) :
    Calls Try.prog 62 #[.int .i64 n, .int .i64 lo, .int .i64 hi] w fun e w' => e = .returned (.bool false) ∧ w = w' := by
  have := within_any n lo hi w
  rwa [decide_eq_false h] at this

theorem money_any (n : Int) (w : World) : Calls Try.prog 65 #[.int .i64 n] w fun e w' => e = .returned (.bool (monB n)) ∧ w = w' := by
  unfold monB
  have Hc := Lib.hid (within_any n 0 1000000000000 w)
  generalize decide (0 ≤ n ∧ n ≤ 1000000000000) = q at *
  go_enter Try.func65, Try.ntmps65
  go_wp2_with fail
  refine Hc.out.mono ?_; rintro e w1 ⟨rfl, rfl⟩
  go_wp2
  go_ret
  exact ⟨rfl, rfl⟩
theorem mon_ok (l : List Int) (w : World) : PredB Try.prog 65 #[] (Value.int .i64) monB w l := by
  intro W x hx hb
  exact (money_any x W).mono (by rintro e w1 ⟨rfl, rfl⟩; exact ⟨rfl, Below.refl _ _⟩)

set_option maxHeartbeats 800000 in
theorem sum_any (A : Option Addr) (n cap : Nat) (l : List Int) (w : World) (hn : l.length = n) (hm : n ≤ 100) (hd : Cells w A 1 encI l) (hv : ∀ x ∈ l, 0 ≤ x ∧ x ≤ 10000000000000000) :
    Calls Try.prog 34 #[.slice A n cap] w fun e w' => e = .returned (.int .i64 (isum l)) ∧ w = w' := by
  have Hn := Lib.hid hn
  clear hn
  have Hv := Lib.hid hv
  clear hv
  go_enter Try.func34, Try.ntmps34
  go_wp2
  go_loop [2, 4, 7] (fun s _ t => ∃ (k : Nat) (x : Int), k ≤ n ∧ t = .int .i64 k ∧ s = .int .i64 x ∧ (0 ≤ x ∧ x ≤ 1000000000000000000) ∧ Hid (x = isum (l.take k))) (fun _ _ t => n - (intOf t).toNat)
  case atStart => exact ⟨0, 0, by omega, rfl, rfl, by omega, Lib.hid rfl⟩
  case round =>
    obtain ⟨k, x, hk, rfl, rfl, hx, Hx⟩ := hrel
    by_cases hlt : k < n
    · have hk1 : k < l.length := by rw [Hn.out]; exact hlt
      obtain ⟨b, off, rfl, hbl, c0⟩ := hd.at1 hk1 rfl
      have h2 := Hv.out l[k] (List.getElem_mem _)
      have h1 : 0 ≤ x + l[k] ∧ x + l[k] ≤ 1000000000000000000 := by
        have hs := isum_map_take_succ id l k hk1
        have h3 := isum_map_bd id (l.take (k + 1)) 10000000000000000 (fun x hx => Hv.out x (List.mem_of_mem_take hx))
        have h4 : ((l.take (k + 1)).length : Int) ≤ 100 := by simp; omega
        simp only [List.map_id, id] at hs h3
        rw [hs, ← Hx.out] at h3
        omega
      have H1 := Lib.hid (isum_map_take_succ id l k hk1)
      have hz : (0 : Int) ≤ k := by omega
      go_wp2
      go_round
      case rel => exact ⟨k + 1, _, by omega, by go_num, rfl, h1, Lib.hid (by have := H1.out; simp only [List.map_id, id] at this; rw [this, ← Hx.out])⟩
      case measure => simp [intOf]; omega
    · go_wp2
      go_ret
      exact ⟨ret_congr (int_congr (by rw [Hx.out, List.take_of_length_le (by rw [Hn.out]; omega)])), rfl⟩

theorem cells_new {α : Type} (w : World) (T : TypeId) (sz : Nat) (enc : α → List Value) (hen : ∀ x, (enc x).length = sz) (l : List α) : Cells (w.alloc (.cells (l.flatMap enc).toArray T)) (some ⟨w.heap.size, 0, none⟩) sz enc l := fun i x hi =>
  ⟨w.heap.size, 0, rfl, fun j y hj => by
    have h := flatMap_get hen l i j x y hi hj
    have := (Blk.new w T (l.flatMap enc)).cell h
    simpa using this⟩

/-- pot.pay: what is left lies in a cell -/
theorem pay_any (B : Nat) (left n : Int) (w : World) (h1 : 0 ≤ left ∧ left ≤ 9000000000000000000) (h2 : 0 ≤ n ∧ n ≤ 9000000000000000000) (hc : Blk w B 110 [.int .i64 left]) :
    Calls Try.prog 35 #[.pointer (some ⟨B, 0, none⟩), .int .i64 n] w fun e w' => e = .returned (.int .i64 (min left n)) ∧ w' = w.setCell ⟨B, 0, none⟩ (.int .i64 (left - min left n)) := by
  have c0 : w.cell? ⟨B, 0, none⟩ = _ := hc.cell rfl
  have f0 := hc.free 0
  by_cases h : n < left
  · rw [show min left n = n by omega]
    clear hc
    go_enter Try.func35, Try.ntmps35
    go_wp2
    go_ret
    exact ⟨rfl, rfl⟩
  · rw [show min left n = left by omega]
    clear hc
    go_enter Try.func35, Try.ntmps35
    go_wp2
    go_ret
    exact ⟨rfl, rfl⟩
end Go.Proofs.Ytilkoooahoecfaa

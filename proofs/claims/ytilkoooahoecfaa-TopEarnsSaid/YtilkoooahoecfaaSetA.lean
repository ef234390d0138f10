/- Walk: weeks: whether one is valid; one for the program. -/
import Derived.Test.YtilkoooahoecfaaAllA
import Derived.Test.YtilkoooahoecfaaSortW
namespace Go.Proofs.Ytilkoooahoecfaa
open Go.RowKit Go.Bs Go.Pu Go.Pl Go.Sort

def wkV (A : Option Addr) (n c : Nat) (P : Int) (B : Option Addr) (m d : Nat) : Value := .agg #[.slice A n c, .int .i64 P, .slice B m d]
theorem cty_len (x : Cty) : (Cty.enc x).length = 4 := rfl
theorem ctr_len (x : Ctr) : (Ctr.enc x).length = 3 := rfl
theorem cty_one (x : Cty) : ∀ u ∈ Cty.enc x, u.oneCell' = true := by intro u hu; simp [Cty.enc] at hu; rcases hu with rfl | rfl | rfl | rfl <;> rfl
theorem ctr_one (x : Ctr) : ∀ u ∈ Ctr.enc x, u.oneCell' = true := by intro u hu; simp [Ctr.enc] at hu; rcases hu with rfl | rfl | rfl <;> rfl

theorem cty_ok (l : List Cty) (w : World) : PredB Try.prog 64 #[] Cty.val ctyB w l := by
  intro W x hx hb
  obtain ⟨a, b, c, d⟩ := x
  have hb0 := ext_alloc W (.cells #[.int .i64 a, .int .i64 b, .int .i64 c, .int .i64 d] 55)
  show Calls Try.prog 64 #[.agg #[.int .i64 a, .int .i64 b, .int .i64 c, .int .i64 d]] W fun e w' => e = .returned (.bool (monB a && (decide (1 ≤ b ∧ b ≤ 1000) && (decide (1 ≤ c ∧ c ≤ 1000) && decide (0 ≤ d ∧ d ≤ 1000))))) ∧ Below W.heap.size W w'
  have C1 := Lib.hid (fun W => money_any a W)
  have C2 := Lib.hid (fun W => within_any b 1 1000 W)
  have C3 := Lib.hid (fun W => within_any c 1 1000 W)
  have C4 := Lib.hid (fun W => within_any d 0 1000 W)
  generalize monB a = b1 at *
  generalize decide (1 ≤ b ∧ b ≤ 1000) = b2 at *
  generalize decide (1 ≤ c ∧ c ≤ 1000) = b3 at *
  generalize decide (0 ≤ d ∧ d ≤ 1000) = b4 at *
  clear hx hb
  go_enter Try.func64, Try.ntmps64
  go_wp2_with fail
  refine (C1.out _).mono ?_; rintro e w1 ⟨rfl, rfl⟩
  cases b1
  · go_wp2
    go_ret
    exact ⟨rfl, hb0⟩
  go_wp2_with fail
  refine (C2.out _).mono ?_; rintro e w1 ⟨rfl, rfl⟩
  cases b2
  · go_wp2
    go_ret
    exact ⟨rfl, hb0⟩
  go_wp2_with fail
  refine (C3.out _).mono ?_; rintro e w1 ⟨rfl, rfl⟩
  cases b3
  · go_wp2
    go_ret
    exact ⟨rfl, hb0⟩
  go_wp2_with fail
  refine (C4.out _).mono ?_; rintro e w1 ⟨rfl, rfl⟩
  go_wp2
  go_ret
  exact ⟨rfl, hb0⟩

theorem ctr_ok (l : List Ctr) (w : World) : PredB Try.prog 67 #[] Ctr.val ctrB w l := by
  intro W x hx hb
  obtain ⟨a, b, c⟩ := x
  have hb0 := ext_alloc W (.cells #[.int .i64 a, .int .i64 b, .int .i64 c] 41)
  show Calls Try.prog 67 #[.agg #[.int .i64 a, .int .i64 b, .int .i64 c]] W fun e w' => e = .returned (.bool (decide (0 ≤ a ∧ a ≤ 100) && (monB b && decide (0 ≤ c ∧ c ≤ 1000)))) ∧ Below W.heap.size W w'
  have C1 := Lib.hid (fun W => within_any a 0 100 W)
  have C2 := Lib.hid (fun W => money_any b W)
  have C3 := Lib.hid (fun W => within_any c 0 1000 W)
  generalize monB b = b2 at *
  generalize decide (0 ≤ a ∧ a ≤ 100) = b1 at *
  generalize decide (0 ≤ c ∧ c ≤ 1000) = b3 at *
  clear hx hb
  go_enter Try.func67, Try.ntmps67
  go_wp2_with fail
  refine (C1.out _).mono ?_; rintro e w1 ⟨rfl, rfl⟩
  cases b1
  · go_wp2
    go_ret
    exact ⟨rfl, hb0⟩
  go_wp2_with fail
  refine (C2.out _).mono ?_; rintro e w1 ⟨rfl, rfl⟩
  cases b2
  · go_wp2
    go_ret
    exact ⟨rfl, hb0⟩
  go_wp2_with fail
  refine (C3.out _).mono ?_; rintro e w1 ⟨rfl, rfl⟩
  go_wp2
  go_ret
  exact ⟨rfl, hb0⟩

theorem ctrB_share {x : Ctr} (h : ctrB x = true) : 0 ≤ x.share ∧ x.share ≤ 1000 := by
  unfold ctrB at h
  simp only [Bool.and_eq_true, decide_eq_true_eq] at h
  exact h.2.2
theorem shares_bd {l : List Ctr} (h : l.all ctrB = true) (k : Nat) : 0 ≤ isum ((l.take k).map Ctr.share) ∧ isum ((l.take k).map Ctr.share) ≤ (l.take k).length * 1000 :=
  isum_map_bd Ctr.share (l.take k) 1000 (fun x hx => ctrB_share (List.all_eq_true.1 h x (List.mem_of_mem_take hx)))

set_option maxRecDepth 100000 in
set_option maxHeartbeats 2000000 in
theorem wvalid_any (wk : Wk) (A B : Option Addr) (n c m d : Nat) (w : World) (hn : wk.ctys.length = n) (hm : wk.ctrs.length = m) (h1 : n ≤ 1000000) (h2 : m ≤ 1000000) (hA : Cells w A 4 Cty.enc wk.ctys) (hB : Cells w B 3 Ctr.enc wk.ctrs) :
    Calls Try.prog 33 #[wkV A n c wk.premium B m d] w fun e w' => e = .returned (.bool wk.okB) ∧ Below w.heap.size w w' := by
  unfold wkV
  have hb0 := ext_alloc w (.cells #[.slice A n c, .int .i64 wk.premium, .slice B m d] 45)
  have hX := Blk.new w 45 [.slice A n c, .int .i64 wk.premium, .slice B m d]
  obtain ⟨ctys, prem, ctrs⟩ := wk
  simp only at hn hm hA hB hb0 hX ⊢
  have hr : Wk.okB ⟨ctys, prem, ctrs⟩ = (decide ((1 : Int) ≤ n ∧ (n : Int) ≤ 8) && (ctys.all ctyB && (monB prem && (decide (m ≤ 20) && (ctrs.all ctrB && decide (isum (ctrs.map Ctr.share) ≤ 1000)))))) := by
    unfold Wk.okB monB
    simp only [hn, hm]
    congr 1
    exact decide_eq_decide.2 (by omega)
  rw [hr]
  clear hr
  have C1 := Lib.hid (fun W => within_any (n : Int) 1 8 W)
  have C2 := Lib.hid (all_cty 64 #[] ctyB A n c ctys _ (enters_of Try.func64 (by kernel_rfl) rfl) hn (by omega) (hA.ext hb0) (cty_ok ctys _))
  have C3 := Lib.hid (fun W => money_any prem W)
  have C4 := Lib.hid (fun W (hb : Below w.heap.size w W) => all_ctr 67 #[] ctrB B m d ctrs W (enters_of Try.func67 (by kernel_rfl) rfl) hm (by omega) (hB.ext hb) (ctr_ok ctrs _))
  generalize decide ((1 : Int) ≤ n ∧ (n : Int) ≤ 8) = b1 at *
  generalize ctys.all ctyB = b2 at *
  generalize monB prem = b3 at *
  generalize hq5 : ctrs.all ctrB = b5 at *
  have Hq5 := Lib.hid hq5
  have Hm := Lib.hid hm
  clear hq5 hm hn hA
  go_enter Try.func33, Try.ntmps33
  go_upto_region 1 with fail
  change Blk (w.alloc (.cells #[.slice A n c, .int .i64 prem, .slice B m d] 45)) w.heap.size 45 _ at hX
  generalize hW0 : w.alloc (.cells #[.slice A n c, .int .i64 prem, .slice B m d] 45) = W0 at *
  have x0 : W0.cell? ⟨w.heap.size, 0, none⟩ = _ := hX.cell rfl
  have x1 : W0.cell? ⟨w.heap.size, 1, none⟩ = _ := hX.cell rfl
  have x2 : W0.cell? ⟨w.heap.size, 2, none⟩ = _ := hX.cell rfl
  go_wp2_with fail
  refine (C1.out _).mono ?_; rintro e w1 ⟨rfl, rfl⟩
  cases b1
  · go_wp2
    go_ret
    exact ⟨rfl, hb0⟩
  go_wp2_with fail
  refine C2.out.mono ?_; rintro e w1 ⟨rfl, hb1⟩
  have hb2 := ext_trans hb0 hb1
  have hX1 := hX.ext hb1
  clear x0 x1 x2 hb0 hb1 hX hW0
  have x1 : w1.cell? ⟨w.heap.size, 1, none⟩ = _ := hX1.cell rfl
  have x2 : w1.cell? ⟨w.heap.size, 2, none⟩ = _ := hX1.cell rfl
  cases b2
  · go_wp2
    go_ret
    exact ⟨rfl, hb2⟩
  go_wp2_with fail
  refine (C3.out _).mono ?_; rintro e w2 ⟨rfl, rfl⟩
  cases b3
  · go_wp2
    go_ret
    exact ⟨rfl, hb2⟩
  by_cases h20 : m ≤ 20
  · have h20' : ¬ (20 : Int) < (m : Int) := by omega
    go_wp2_with fail
    refine (C4.out _ hb2).mono ?_; rintro e w2 ⟨rfl, hb3⟩
    have hb4 := ext_trans hb2 hb3
    have hX2 := hX1.ext hb3
    clear x1 x2 hb2 hb3 hX1
    cases b5
    · go_wp2
      go_ret
      exact ⟨by simp, hb4⟩
    have x2 : w2.cell? ⟨w.heap.size, 2, none⟩ = _ := hX2.cell rfl
    have hB2 := hB.ext hb4
    go_wp2
    clear x2
    have Hs := Lib.hid (fun k => shares_bd Hq5.out k)
    go_loopw [3, 5, 38] (fun s _ x wr => ∃ (k : Nat) (t : Int), s = .int .i64 t ∧ x = .int .i64 k ∧ k ≤ m ∧ (0 ≤ t ∧ t ≤ 20000) ∧ Hid (t = isum ((ctrs.take k).map Ctr.share)) ∧ Below w2.heap.size w2 wr) (fun _ _ x _ => m - (intOf x).toNat)
    case atStart => exact ⟨0, 0, rfl, rfl, by omega, by omega, Lib.hid rfl, Below.refl _ _⟩
    case round =>
      obtain ⟨k, t, rfl, rfl, hk, ht, Ht, hb5⟩ := hrel
      by_cases hlt : k < m
      · have hlt' : (k : Int) < (m : Int) := by omega
        have hkl : k < ctrs.length := by rw [Hm.out]; exact hlt
        obtain ⟨b, off, rfl, -, c0, c1, c2⟩ := (hB2.ext hb5).at3 hkl rfl
        have hst := isum_map_take_succ Ctr.share ctrs k hkl
        have hbd := Hs.out (k + 1)
        have hl : ((ctrs.take (k + 1)).length : Int) ≤ 20 := by simp; omega
        rw [hst] at hbd
        rw [← Ht.out] at hst hbd
        have Hst := Lib.hid hst
        clear hst
        generalize ctrs[k] = x at *
        obtain ⟨r, wg, sh⟩ := x
        simp only at c0 c1 c2 hbd
        have hbd' : 0 ≤ t + sh ∧ t + sh ≤ 20000 := by omega
        go_wp2
        go_roundw
        case rel => exact ⟨k + 1, t + sh, rfl, by go_num, by omega, hbd', Lib.hid Hst.out.symm, hb5.trans (ext_alloc _ _ |>.mono hb5.size)⟩
        case measure => simp [intOf]; omega
      · obtain rfl : k = m := by omega
        go_wp2
        go_ret
        refine ⟨ret_congr (bool_congr ?_), ext_trans hb4 hb5⟩
        rw [Ht.out, List.take_of_length_le (by rw [Hm.out]; omega)]
        simp [h20]
  · have h20' : (20 : Int) < (m : Int) := by omega
    go_wp2
    go_ret
    exact ⟨by simp [h20], hb2⟩
end Go.Proofs.Ytilkoooahoecfaa

/- Walk: the reference's word on weeks; a week for the program. -/
import Derived.Test.YtnjdlhhgnamigaaSetA
namespace Go.Proofs.Ytnjdlhhgnamigaa
open Go.RowKit Go.Bs Go.Pu Go.Pl Go.Sort

set_option maxRecDepth 100000 in
set_option maxHeartbeats 2000000 in
theorem RightWeek_any (wk : Wk) (A B : Option Addr) (n c m d : Nat) (w : World) (hn : wk.ctys.length = n) (hm : wk.ctrs.length = m) (h1 : n ≤ 1000000) (h2 : m ≤ 1000000) (hA : Cells w A 4 Cty.enc wk.ctys) (hB : Cells w B 3 Ctr.enc wk.ctrs) :
    Calls Try.prog 19 #[wkV A n c wk.premium B m d] w fun e w' => e = .returned (.bool wk.okB) ∧ Below w.heap.size w w' := by
  unfold wkV
  have hb0 := ext_alloc w (.cells #[.slice A n c, .int .i64 wk.premium, .slice B m d] 25)
  have hX := Blk.new w 25 [.slice A n c, .int .i64 wk.premium, .slice B m d]
  obtain ⟨ctys, prem, ctrs⟩ := wk
  simp only at hn hm hA hB hb0 hX ⊢
  have hr : Wk.okB ⟨ctys, prem, ctrs⟩ = (decide ((1 : Int) ≤ n ∧ (n : Int) ≤ 8) && (ctys.all ctyB && (monB prem && (decide (m ≤ 20) && (ctrs.all ctrB && decide (isum (ctrs.map Ctr.share) ≤ 1000)))))) := by
    unfold Wk.okB monB
    simp only [hn, hm]
    congr 1
    exact decide_eq_decide.2 (by omega)
  rw [hr]
  clear hr
  generalize hres : (decide ((1 : Int) ≤ n ∧ (n : Int) ≤ 8) && (ctys.all ctyB && (monB prem && (decide (m ≤ 20) && (ctrs.all ctrB && decide (isum (ctrs.map Ctr.share) ≤ 1000)))))) = res
  have C1 := Lib.hid (fun W => In_any (n : Int) 1 8 W)
  have C3 := Lib.hid (fun W => moneyR_any prem W)
  generalize decide ((1 : Int) ≤ n ∧ (n : Int) ≤ 8) = b1 at *
  generalize monB prem = b3 at *
  have Hres := Lib.hid hres
  have Hm := Lib.hid hm
  have Hn := Lib.hid hn
  clear hres hm hn
  go_enter Try.func19, Try.ntmps19
  go_upto_region 1 with fail
  change Blk (w.alloc (.cells #[.slice A n c, .int .i64 prem, .slice B m d] 25)) w.heap.size 25 _ at hX
  generalize hW0 : w.alloc (.cells #[.slice A n c, .int .i64 prem, .slice B m d] 25) = W0 at *
  have x0 : W0.cell? ⟨w.heap.size, 0, none⟩ = _ := hX.cell rfl
  have x1 : W0.cell? ⟨w.heap.size, 1, none⟩ = _ := hX.cell rfl
  have x2 : W0.cell? ⟨w.heap.size, 2, none⟩ = _ := hX.cell rfl
  go_wp2_with fail
  refine (C1.out _).mono ?_; rintro e w1 ⟨rfl, rfl⟩
  cases b1
  · go_wp2
    go_ret
    exact ⟨ret_congr (bool_congr (by rw [← Hres.out, Bool.false_and])), hb0⟩
  go_wp2_with fail
  refine (C3.out _).mono ?_; rintro e w1 ⟨rfl, rfl⟩
  cases b3
  · go_wp2
    go_ret
    exact ⟨ret_congr (bool_congr (by rw [← Hres.out]; simp)), hb0⟩
  by_cases h20 : m ≤ 20
  · have h20' : ¬ (20 : Int) < (m : Int) := by omega
    have Hres2 := Lib.hid (show (ctys.all ctyB && (ctrs.all ctrB && decide (isum (ctrs.map Ctr.share) ≤ 1000))) = res by rw [← Hres.out]; simp [h20])
    clear Hres
    go_wp2
    clear x0 x1 x2
    go_loopw [3, 4] (fun x _ wr => ∃ k : Nat, x = .int .i64 k ∧ k ≤ n ∧ Hid ((ctys.take k).all ctyB = true) ∧ Below W0.heap.size W0 wr) (fun x _ _ => n - (intOf x).toNat)
    case atStart => exact ⟨0, rfl, by omega, Lib.hid rfl, Below.refl _ _⟩
    case round =>
      obtain ⟨k, rfl, hk, Hk, hb⟩ := hrel
      have hX1 := hX.ext hb
      have x0 : wr.cell? ⟨w.heap.size, 0, none⟩ = _ := hX1.cell rfl
      by_cases hlt : k < n
      · have hlt' : (k : Int) < (n : Int) := by omega
        have hkl : k < ctys.length := by rw [Hn.out]; exact hlt
        obtain ⟨b, off, rfl, -, c0, c1, c2, c3⟩ := (hA.ext (ext_trans hb0 hb)).at4 hkl rfl
        have hst : (ctys.take (k + 1)).all ctyB = ctyB ctys[k] := by rw [List.take_succ_eq_append_getElem hkl, List.all_append, Hk.out]; simp
        have hno : ctyB ctys[k] = false → res = false := fun h => by
          rw [← Hres2.out]
          have : ctys.all ctyB = false := by rw [List.all_eq_false]; exact ⟨_, List.getElem_mem hkl, by simp [h]⟩
          rw [this, Bool.false_and]
        have Hst := Lib.hid hst
        have Hno := Lib.hid hno
        clear hst hno
        generalize ctys[k] = x at *
        obtain ⟨a1, a2, a3, a4⟩ := x
        simp only at c0 c1 c2 c3
        have hcb : ctyB ⟨a1, a2, a3, a4⟩ = (monB a1 && (decide (1 ≤ a2 ∧ a2 ≤ 1000) && (decide (1 ≤ a3 ∧ a3 ≤ 1000) && decide (0 ≤ a4 ∧ a4 ≤ 1000)))) := rfl
        rw [hcb] at Hst Hno
        clear hcb
        have D1 := Lib.hid (fun W => moneyR_any a1 W)
        have D2 := Lib.hid (fun W => In_any a2 1 1000 W)
        have D3 := Lib.hid (fun W => In_any a3 1 1000 W)
        have D4 := Lib.hid (fun W => In_any a4 0 1000 W)
        generalize monB a1 = q1 at *
        generalize decide (1 ≤ a2 ∧ a2 ≤ 1000) = q2 at *
        generalize decide (1 ≤ a3 ∧ a3 ≤ 1000) = q3 at *
        generalize decide (0 ≤ a4 ∧ a4 ≤ 1000) = q4 at *
        have hbn := hb.trans (ext_alloc wr (.cells #[.int .i64 a1, .int .i64 a2, .int .i64 a3, .int .i64 a4] 133) |>.mono hb.size)
        go_wp2_with fail
        refine (D1.out _).mono ?_; rintro e w2 ⟨rfl, rfl⟩
        cases q1
        · go_wp2
          go_ret
          exact ⟨ret_congr (bool_congr (Hno.out (by simp)).symm), ext_trans hb0 hbn⟩
        go_wp2_with fail
        refine (D2.out _).mono ?_; rintro e w2 ⟨rfl, rfl⟩
        cases q2
        · go_wp2
          go_ret
          exact ⟨ret_congr (bool_congr (Hno.out (by simp)).symm), ext_trans hb0 hbn⟩
        go_wp2_with fail
        refine (D3.out _).mono ?_; rintro e w2 ⟨rfl, rfl⟩
        cases q3
        · go_wp2
          go_ret
          exact ⟨ret_congr (bool_congr (Hno.out (by simp)).symm), ext_trans hb0 hbn⟩
        go_wp2_with fail
        refine (D4.out _).mono ?_; rintro e w2 ⟨rfl, rfl⟩
        cases q4
        · go_wp2
          go_ret
          exact ⟨ret_congr (bool_congr (Hno.out (by simp)).symm), ext_trans hb0 hbn⟩
        go_wp2
        go_roundw
        case rel => exact ⟨k + 1, by go_num, by omega, Lib.hid (by rw [Hst.out]; rfl), hbn⟩
        case measure => simp [intOf]; omega
      · obtain rfl : k = n := by omega
        have Hres3 := Lib.hid (show (ctrs.all ctrB && decide (isum (ctrs.map Ctr.share) ≤ 1000)) = res by
          rw [← Hres2.out]
          have := Hk.out
          rw [List.take_of_length_le (by rw [Hn.out]; omega)] at this
          rw [this, Bool.true_and])
        clear Hres2 Hk
        go_wp2
        clear x0
        have hb2 := ext_trans hb0 hb
        generalize wr = W1 at *
        clear hb hb0 hX hA
        go_loopw [5, 6, 7] (fun s x _ wr => ∃ (k : Nat) (t : Int), s = .int .i64 t ∧ x = .int .i64 k ∧ k ≤ m ∧ (0 ≤ t ∧ t ≤ (k : Int) * 1000) ∧ Hid (t = isum ((ctrs.take k).map Ctr.share)) ∧ Hid ((ctrs.take k).all ctrB = true) ∧ Below W1.heap.size W1 wr) (fun _ x _ _ => m - (intOf x).toNat)
        case atStart => exact ⟨0, 0, rfl, rfl, by omega, by omega, Lib.hid rfl, Lib.hid rfl, Below.refl _ _⟩
        case round =>
          obtain ⟨k, t, rfl, rfl, hk, ht, Ht, Hk, hb⟩ := hrel
          have hX2 := hX1.ext hb
          have x2 : wr.cell? ⟨w.heap.size, 2, none⟩ = _ := hX2.cell rfl
          by_cases hlt : k < m
          · have hlt' : (k : Int) < (m : Int) := by omega
            have hkl : k < ctrs.length := by rw [Hm.out]; exact hlt
            obtain ⟨b, off, rfl, -, c0, c1, c2⟩ := (hB.ext (ext_trans hb2 hb)).at3 hkl rfl
            have hst : (ctrs.take (k + 1)).all ctrB = ctrB ctrs[k] := by rw [List.take_succ_eq_append_getElem hkl, List.all_append, Hk.out]; simp
            have hno : ctrB ctrs[k] = false → res = false := fun h => by
              rw [← Hres3.out]
              have : ctrs.all ctrB = false := by rw [List.all_eq_false]; exact ⟨_, List.getElem_mem hkl, by simp [h]⟩
              rw [this, Bool.false_and]
            have hsu := isum_map_take_succ Ctr.share ctrs k hkl
            rw [← Ht.out] at hsu
            have Hsu := Lib.hid hsu
            have Hst := Lib.hid hst
            have Hno := Lib.hid hno
            clear hst hno hsu
            generalize ctrs[k] = x at *
            obtain ⟨a1, a2, a3⟩ := x
            simp only at c0 c1 c2 Hsu
            have hcb : ctrB ⟨a1, a2, a3⟩ = (decide (0 ≤ a1 ∧ a1 ≤ 100) && (monB a2 && decide (0 ≤ a3 ∧ a3 ≤ 1000))) := rfl
            rw [hcb] at Hst Hno
            clear hcb
            have D1 := Lib.hid (fun W => In_any a1 0 100 W)
            have D2 := Lib.hid (fun W => moneyR_any a2 W)
            have D3 := Lib.hid (fun W => In_any a3 0 1000 W)
            generalize decide (0 ≤ a1 ∧ a1 ≤ 100) = q1 at *
            generalize monB a2 = q2 at *
            generalize hq3 : decide (0 ≤ a3 ∧ a3 ≤ 1000) = q3 at *
            have Hq3 := Lib.hid hq3
            clear hq3
            have hbn := hb.trans (ext_alloc wr (.cells #[.int .i64 a1, .int .i64 a2, .int .i64 a3] 55) |>.mono hb.size)
            go_wp2_with fail
            refine (D1.out _).mono ?_; rintro e w2 ⟨rfl, rfl⟩
            cases q1
            · go_wp2
              go_ret
              exact ⟨ret_congr (bool_congr (Hno.out (by simp)).symm), ext_trans hb2 hbn⟩
            go_wp2_with fail
            refine (D2.out _).mono ?_; rintro e w2 ⟨rfl, rfl⟩
            cases q2
            · go_wp2
              go_ret
              exact ⟨ret_congr (bool_congr (Hno.out (by simp)).symm), ext_trans hb2 hbn⟩
            go_wp2_with fail
            refine (D3.out _).mono ?_; rintro e w2 ⟨rfl, rfl⟩
            cases q3
            · go_wp2
              go_ret
              exact ⟨ret_congr (bool_congr (Hno.out (by simp)).symm), ext_trans hb2 hbn⟩
            have ha3 := of_decide_eq_true Hq3.out
            go_wp2
            go_roundw
            case rel => exact ⟨k + 1, t + a3, rfl, by go_num, by omega, by omega, Lib.hid Hsu.out.symm, Lib.hid (by rw [Hst.out]; rfl), hbn⟩
            case measure => simp [intOf]; omega
          · obtain rfl : k = m := by omega
            go_wp2
            go_ret
            refine ⟨ret_congr (bool_congr ?_), ext_trans hb2 hb⟩
            rw [← Hres3.out, Ht.out]
            have := Hk.out
            rw [List.take_of_length_le (by rw [Hm.out]; omega)] at this ⊢
            rw [this, Bool.true_and]
  · have h20' : (20 : Int) < (m : Int) := by omega
    go_wp2
    go_ret
    exact ⟨ret_congr (bool_congr (by rw [← Hres.out]; simp [h20])), hb0⟩
end Go.Proofs.Ytnjdlhhgnamigaa

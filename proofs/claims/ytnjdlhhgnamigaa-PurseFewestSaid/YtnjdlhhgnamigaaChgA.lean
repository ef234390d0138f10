/- The law of Change: what is given of a till. -/
import Derived.Test.YtnjdlhhgnamigaaAwB
import Derived.Test.YtnjdlhhgnamigaaTilG
namespace Go.Proofs.Ytnjdlhhgnamigaa
open Go.RowKit Go.Bs Go.Pu Go.Pl Go.Sort

theorem Till_put (t : Tl) (A B : Option Addr) (n c m d : Nat) (w : World) (hn : t.vals.length = n) (hm : t.cnts.length = m) (h1 : n ≤ 1000000) (h2 : m ≤ 1000000) (hA : Cells w A 1 encI t.vals) (hB : Cells w B 1 encI t.cnts) :
    Calls Try.prog 32 #[tlV A n c B m d] w fun e w' => ∃ A' c' B' d', e = .returned (tlV A' n c' B' m d') ∧ Cells w' A' 1 encI t.vals ∧ Cells w' B' 1 encI t.cnts ∧ Below w.heap.size w w' := by
  refine (Till_any t A B n c m d w hn hm h1 h2 hA hB).mono ?_
  rintro e W1 ⟨v1, u1, rfl, ⟨A1, c1, rfl, -, -, f1, -⟩, ⟨B1, d1, rfl, -, -, f2, -⟩, hb1⟩
  rw [hn, hm]
  exact ⟨A1, c1, B1, d1, rfl, f1, f2, hb1⟩
theorem thin_any (A B : Option Addr) (n c m d : Nat) (w : World) :
    Calls Try.prog 29 #[tlV A n c B m d] w fun e w' => e = .returned (.bool (decide (n ≤ 12) && decide (m ≤ 12))) ∧ Below w.heap.size w w' := by
  have hb0 := ext_alloc w (.cells #[.slice A n c, .slice B m d] 62)
  unfold tlV
  by_cases h1 : n ≤ 12
  · have h1' : (n : Int) ≤ 12 := by omega
    by_cases h2 : m ≤ 12
    · have h2' : (m : Int) ≤ 12 := by omega
      rw [decide_eq_true h1, decide_eq_true h2]
      go_enter Try.func29, Try.ntmps29
      go_wp2
      go_ret
      exact ⟨rfl, hb0⟩
    · have h2' : ¬ (m : Int) ≤ 12 := by omega
      rw [decide_eq_true h1, decide_eq_false h2]
      go_enter Try.func29, Try.ntmps29
      go_wp2
      go_ret
      exact ⟨rfl, hb0⟩
  · have h1' : ¬ (n : Int) ≤ 12 := by omega
    rw [decide_eq_false h1]
    go_enter Try.func29, Try.ntmps29
    go_wp2
    go_ret
    exact ⟨rfl, hb0⟩

theorem chg_len (t : Tl) : ∀ (m a : Nat) (l : Int), (t.chg m a l).length = m
  | 0, _, _ => rfl
  | m + 1, a, l => by unfold Tl.chg; simp [chg_len t m]

set_option maxRecDepth 100000 in
set_option maxHeartbeats 4000000 in
theorem change_law (t : Tl) (A B : Option Addr) (n c m d : Nat) (amount : Int) (w : World) (hn : t.vals.length = n) (hm : t.cnts.length = m) (hA : Cells w A 1 encI t.vals) (hB : Cells w B 1 encI t.cnts) :
    Calls Try.prog 9 #[tlV A n c B m d, .int .i64 amount] w fun e w' => e = .returned (.bool true) ∧ Below w.heap.size w w' := by
  have hbw0 := ext_alloc w (.cells #[.slice A n c, .slice B m d] 62)
  have hX0 := Blk.new w 62 [.slice A n c, .slice B m d]
  have hA0 := hA.ext hbw0
  have hB0 := hB.ext hbw0
  have CH := Lib.hid (fun W => thin_any A B n c m d W)
  have CI := Lib.hid (fun a b W => In_any amount a b W)
  have CT := Lib.hid (fun W h1 h2 hA hB => Till_put t A B n c m d W hn hm h1 h2 hA hB)
  have CC := Lib.hid (fun A B c d W h1 h2 hA hB => Change_any t A B n c m d amount W hn hm h1 h2 hA hB)
  have CR := Lib.hid (fun W h1 h2 hA hB => RightT_any t A B n c m d W hn hm h1 h2 hA hB)
  have CK0 := fun A B c d W h1 h2 hA hB => CheckTill_any t A B n c m d W hn hm h1 h2 hA hB
  have HR := Lib.hid fun (h : t.okB = true) => hm.symm.trans (((t.okB_iff).1 h).eq.trans hn)
  generalize hres : changeR t amount = res at *
  have Hres := Lib.hid hres
  have Hn := Lib.hid hn
  clear hA hB hn hm hres
  obtain ⟨ls, er⟩ := res
  simp only at CC
  unfold tlV at *
  go_enter Try.func9, Try.ntmps9
  go_upto_region 1 with fail
  change Blk (w.alloc (.cells #[.slice A n c, .slice B m d] 62)) _ _ _ at hX0
  generalize w.alloc (.cells #[.slice A n c, .slice B m d] 62) = W0 at *
  have x0 : W0.cell? ⟨w.heap.size, 0, none⟩ = _ := hX0.cell (i := 0) rfl
  have x1 : W0.cell? ⟨w.heap.size, 1, none⟩ = _ := hX0.cell (i := 1) rfl
  go_wp2_with fail
  refine (CH.out _).mono ?_; rintro e W1 ⟨rfl, hb1⟩
  have hbw1 := ext_trans hbw0 hb1
  have hX1 := hX0.ext hb1
  have hA1 := hA0.ext hb1
  have hB1 := hB0.ext hb1
  clear hbw0 hb1 hX0 hA0 hB0
  clear x0 x1 CH
  by_cases h12 : ¬ (n ≤ 12 ∧ m ≤ 12)
  · have e0 : (decide (n ≤ 12) && decide (m ≤ 12)) = false := by simp only [Bool.and_eq_false_iff, decide_eq_false_iff_not]; omega
    rw [e0]
    go_wp2_with fail
    refine (awake_any _).mono ?_; rintro e wz ⟨rfl, hbz⟩
    go_wp2
    go_ret
    exact ⟨rfl, ext_trans hbw1 hbz⟩
  have h12 := Decidable.of_not_not h12
  have e0 : (decide (n ≤ 12) && decide (m ≤ 12)) = true := by simp [h12.1, h12.2]
  obtain ⟨hn12, hm12⟩ := h12
  rw [e0]
  clear e0
  go_wp2_with fail
  refine (CI.out _ _ _).mono ?_; rintro e W1' ⟨rfl, rfl⟩
  by_cases h301 : 301 ≤ amount ∧ amount ≤ 5000
  · rw [decide_eq_true h301]
    go_wp2_with fail
    refine (awake_any _).mono ?_; rintro e wz ⟨rfl, hbz⟩
    go_wp2
    go_ret
    exact ⟨rfl, ext_trans hbw1 hbz⟩
  rw [decide_eq_false h301]
  have x0 : W1.cell? ⟨w.heap.size, 0, none⟩ = _ := hX1.cell (i := 0) rfl
  have x1 : W1.cell? ⟨w.heap.size, 1, none⟩ = _ := hX1.cell (i := 1) rfl
  go_wp2_with fail
  refine (CT.out _ (by omega) (by omega) hA1 hB1).mono ?_; rintro e W2 ⟨A2, c2, B2, d2, rfl, fa, fb, hb2⟩
  have hbw2 := ext_trans hbw1 hb2
  have hX2 := hX1.ext hb2
  have hA2 := hA1.ext hb2
  have hB2 := hB1.ext hb2
  clear hbw1 hb2 hX1 hA1 hB1
  clear x0 x1
  go_wp2_with fail
  refine (CC.out A2 B2 c2 d2 _ (by omega) (by omega) fa fb).mono ?_; rintro e W3 ⟨v3, rfl, ⟨F, f, rfl, -, -, hf3, -⟩, hb3⟩
  have hbw3 := ext_trans hbw2 hb3
  have hX3 := hX2.ext hb3
  have hA3 := hA2.ext hb3
  have hB3 := hB2.ext hb3
  clear hbw2 hb3 hX2 hA2 hB2
  clear fa fb CC
  rw [List.length_map]
  have x0 : W3.cell? ⟨w.heap.size, 0, none⟩ = _ := hX3.cell (i := 0) rfl
  have x1 : W3.cell? ⟨w.heap.size, 1, none⟩ = _ := hX3.cell (i := 1) rfl
  go_wp2_with fail
  refine (CR.out _ (by omega) (by omega) hA3 hB3).mono ?_; rintro e W4 ⟨rfl, hb4⟩
  have hbw4 := ext_trans hbw3 hb4
  have hX4 := hX3.ext hb4
  have hA4 := hA3.ext hb4
  have hB4 := hB3.ext hb4
  have hf4 := hf3.ext hb4
  clear hbw3 hb4 hX3 hA3 hB3 hf3
  clear x0 x1 CR
  cases hok : t.okB
  · have hr : (ls, er) = ([], 1) := by rw [← Hres.out]; simp [changeR, hok]
    obtain ⟨rfl, rfl⟩ := Prod.mk.injEq .. ▸ hr
    have CK := Lib.hid (fun A B c d W hA hB => CK0 A B c d W (by omega) (by omega) hA hB)
    rw [hok] at CK
    simp only [List.length_nil]
    clear hr CK0 HR
    have x0 : W4.cell? ⟨w.heap.size, 0, none⟩ = _ := hX4.cell (i := 0) rfl
    have x1 : W4.cell? ⟨w.heap.size, 1, none⟩ = _ := hX4.cell (i := 1) rfl
    go_wp2_with fail
    refine (CT.out _ (by omega) (by omega) hA4 hB4).mono ?_; rintro e W5 ⟨P4, q4, R4, s4, rfl, fa, fb, hb5⟩
    have hbw5 := ext_trans hbw4 hb5
    have hX5 := hX4.ext hb5
    have hA5 := hA4.ext hb5
    have hB5 := hB4.ext hb5
    have hf5 := hf4.ext hb5
    clear hbw4 hb5 hX4 hA4 hB4 hf4
    clear x0 x1
    go_wp2_with fail
    refine (CK.out _ _ _ _ _ fa fb).mono ?_; rintro e W6 ⟨rfl, hb6⟩
    have hbw6 := ext_trans hbw5 hb6
    have hX6 := hX5.ext hb6
    have hA6 := hA5.ext hb6
    have hB6 := hB5.ext hb6
    have hf6 := hf5.ext hb6
    clear hbw5 hb6 hX5 hA5 hB5 hf5
    clear fa fb
    go_wp2_with fail
    refine (awake_any _).mono ?_; rintro e wz ⟨rfl, hbz⟩
    go_wp2
    go_ret
    exact ⟨rfl, ext_trans hbw6 hbz⟩
  have CK := Lib.hid (fun A B c d W hA hB => CK0 A B c d W (by omega) (by omega) hA hB)
  rw [hok] at CK
  simp only [if_true] at CK
  clear CK0
  go_wp2_with fail
  refine (CI.out _ _ _).mono ?_; rintro e W4' ⟨rfl, rfl⟩
  by_cases hin : ¬ (0 ≤ amount ∧ amount ≤ 5000)
  · have hr : (ls, er) = ([], 2) := by rw [← Hres.out]; simp only [changeR, hok, if_true, if_neg hin]
    obtain ⟨rfl, rfl⟩ := Prod.mk.injEq .. ▸ hr
    rw [decide_eq_false hin]
    simp only [List.length_nil]
    clear hr HR
    have x0 : W4.cell? ⟨w.heap.size, 0, none⟩ = _ := hX4.cell (i := 0) rfl
    have x1 : W4.cell? ⟨w.heap.size, 1, none⟩ = _ := hX4.cell (i := 1) rfl
    go_wp2_with fail
    refine (CT.out _ (by omega) (by omega) hA4 hB4).mono ?_; rintro e W5 ⟨P4, q4, R4, s4, rfl, fa, fb, hb5⟩
    have hbw5 := ext_trans hbw4 hb5
    have hX5 := hX4.ext hb5
    have hA5 := hA4.ext hb5
    have hB5 := hB4.ext hb5
    have hf5 := hf4.ext hb5
    clear hbw4 hb5 hX4 hA4 hB4 hf4
    clear x0 x1
    go_wp2_with fail
    refine (CK.out _ _ _ _ _ fa fb).mono ?_; rintro e W6 ⟨rfl, hb6⟩
    have hbw6 := ext_trans hbw5 hb6
    have hX6 := hX5.ext hb6
    have hA6 := hA5.ext hb6
    have hB6 := hB5.ext hb6
    have hf6 := hf5.ext hb6
    clear hbw5 hb6 hX5 hA5 hB5 hf5
    clear fa fb
    have x0 : W6.cell? ⟨w.heap.size, 0, none⟩ = _ := hX6.cell (i := 0) rfl
    have x1 : W6.cell? ⟨w.heap.size, 1, none⟩ = _ := hX6.cell (i := 1) rfl
    go_wp2_with fail
    refine (CT.out _ (by omega) (by omega) hA6 hB6).mono ?_; rintro e W7 ⟨P6, q6, R6, s6, rfl, fa, fb, hb7⟩
    have hbw7 := ext_trans hbw6 hb7
    have hX7 := hX6.ext hb7
    have hA7 := hA6.ext hb7
    have hB7 := hB6.ext hb7
    have hf7 := hf6.ext hb7
    clear hbw6 hb7 hX6 hA6 hB6 hf6
    clear x0 x1
    go_wp2_with fail
    refine (CK.out _ _ _ _ _ fa fb).mono ?_; rintro e W8 ⟨rfl, hb8⟩
    have hbw8 := ext_trans hbw7 hb8
    have hX8 := hX7.ext hb8
    have hA8 := hA7.ext hb8
    have hB8 := hB7.ext hb8
    have hf8 := hf7.ext hb8
    clear hbw7 hb8 hX7 hA7 hB7 hf7
    clear fa fb
    go_wp2_with fail
    refine (awake_any _).mono ?_; rintro e wz ⟨rfl, hbz⟩
    go_wp2
    go_ret
    exact ⟨rfl, ext_trans hbw8 hbz⟩
  have hin := Decidable.of_not_not hin
  rw [decide_eq_true hin]
  have x0 : W4.cell? ⟨w.heap.size, 0, none⟩ = _ := hX4.cell (i := 0) rfl
  have x1 : W4.cell? ⟨w.heap.size, 1, none⟩ = _ := hX4.cell (i := 1) rfl
  go_wp2_with fail
  refine (CT.out _ (by omega) (by omega) hA4 hB4).mono ?_; rintro e W5 ⟨P4, q4, R4, s4, rfl, fa, fb, hb5⟩
  have hbw5 := ext_trans hbw4 hb5
  have hX5 := hX4.ext hb5
  have hA5 := hA4.ext hb5
  have hB5 := hB4.ext hb5
  have hf5 := hf4.ext hb5
  clear hbw4 hb5 hX4 hA4 hB4 hf4
  clear x0 x1
  go_wp2_with fail
  refine (CK.out _ _ _ _ _ fa fb).mono ?_; rintro e W6 ⟨rfl, hb6⟩
  have hbw6 := ext_trans hbw5 hb6
  have hX6 := hX5.ext hb6
  have hA6 := hA5.ext hb6
  have hB6 := hB5.ext hb6
  have hf6 := hf5.ext hb6
  clear hbw5 hb6 hX5 hA5 hB5 hf5
  clear fa fb
  have x0 : W6.cell? ⟨w.heap.size, 0, none⟩ = _ := hX6.cell (i := 0) rfl
  have x1 : W6.cell? ⟨w.heap.size, 1, none⟩ = _ := hX6.cell (i := 1) rfl
  go_wp2_with fail
  refine (CT.out _ (by omega) (by omega) hA6 hB6).mono ?_; rintro e W7 ⟨P6, q6, R6, s6, rfl, fa, fb, hb7⟩
  have hbw7 := ext_trans hbw6 hb7
  have hX7 := hX6.ext hb7
  have hA7 := hA6.ext hb7
  have hB7 := hB6.ext hb7
  have hf7 := hf6.ext hb7
  clear hbw6 hb7 hX6 hA6 hB6 hf6
  clear x0 x1
  go_wp2_with fail
  refine (CK.out _ _ _ _ _ fa fb).mono ?_; rintro e W8 ⟨rfl, hb8⟩
  have hbw8 := ext_trans hbw7 hb8
  have hX8 := hX7.ext hb8
  have hA8 := hA7.ext hb8
  have hB8 := hB7.ext hb8
  have hf8 := hf7.ext hb8
  clear hbw7 hb8 hX7 hA7 hB7 hf7
  clear fa fb
  obtain ⟨most, rfl⟩ : ∃ k : Nat, amount = k := ⟨amount.toNat, by omega⟩
  obtain rfl : n = m := (HR.out hok).symm
  have hmost : most ≤ 5000 := by omega
  have hk := (t.okB_iff).1 hok
  have CG := Lib.hid (ChangeR_any t hk A B n c d most W8 Hn.out hmost hA8 hB8)
  unfold tlV at CG
  have hr : (ls, er) = if t.row 0 most = 401 then ([], 7) else (t.chg n most (t.row 0 most), 0) := by
    rw [← Hres.out]
    simp only [changeR, hok, if_true, if_pos hin, Int.toNat_natCast, Hn.out]
  have hl8 : (t.chg n most (t.row 0 most)).length ≤ 8 := by
    have h1 := chg_len t n most (t.row 0 most)
    have h2 := hk.len
    have h3 := Hn.out
    omega
  clear HR CK CT CI
  have x0 : W8.cell? ⟨w.heap.size, 0, none⟩ = _ := hX8.cell (i := 0) rfl
  have x1 : W8.cell? ⟨w.heap.size, 1, none⟩ = _ := hX8.cell (i := 1) rfl
  go_wp2_with fail
  refine CG.out.mono ?_; rintro e W9 ⟨v9, rfl, ⟨J, j, rfl, -, -, hj9, -⟩, hb9⟩
  have hbw9 := ext_trans hbw8 hb9
  have hf9 := hf8.ext hb9
  clear CG hbw8 hf8 hX8 hA8 hB8 hb9 x0 x1
  by_cases h401 : t.row 0 most = 401
  · rw [if_pos h401] at hr
    obtain ⟨rfl, rfl⟩ := Prod.mk.injEq .. ▸ hr
    have e1 : (!decide (t.row 0 most = 401)) = false := by simp [h401]
    rw [e1]
    simp only [List.length_nil]
    clear hr e1 hj9
    go_wp2_with fail
    refine (awake_any _).mono ?_; rintro e wz ⟨rfl, hbz⟩
    go_wp2
    go_ret
    exact ⟨rfl, ext_trans hbw9 hbz⟩
  rw [if_neg h401] at hr
  obtain ⟨rfl, rfl⟩ := Prod.mk.injEq .. ▸ hr
  have e1 : (!decide (t.row 0 most = 401)) = true := by simp [h401]
  rw [e1]
  rw [if_neg h401] at hj9 ⊢
  have CP := Lib.hid (ints_any F J _ _ f j _ _ W9 rfl rfl (by rw [List.length_map]; omega) (by rw [List.length_map]; omega) hf9 hj9)
  rw [decide_eq_true rfl, List.length_map] at CP
  rw [List.length_map]
  clear hr e1 h401 hf9 hj9
  go_wp2_with fail
  refine CP.out.mono ?_; rintro e WA ⟨rfl, hbA⟩
  have hbwA := ext_trans hbw9 hbA
  clear hbw9 hbA CP
  go_wp2_with fail
  refine (awake_any _).mono ?_; rintro e wz ⟨rfl, hbz⟩
  go_wp2
  go_ret
  exact ⟨rfl, ext_trans hbwA hbz⟩
end Go.Proofs.Ytnjdlhhgnamigaa

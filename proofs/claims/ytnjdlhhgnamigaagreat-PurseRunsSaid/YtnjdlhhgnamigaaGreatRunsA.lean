/- Walk: the law PurseRuns. -/
import Derived.Test.YtnjdlhhgnamigaaGreatActA
import Derived.Test.YtnjdlhhgnamigaaGreatRunR
namespace Go.Proofs.YtnjdlhhgnamigaaGreat
open Go.RowKit Go.Bs Go.Pu Go.Pl Go.Sort
set_option maxRecDepth 100000 in
set_option maxHeartbeats 8000000 in
theorem runs_law (l : Led) (A : Option Addr) (n c : Nat) (B : Option Addr) (m d : Nat) (D : Option Addr) (q e : Nat) (acts : List Pu.Act) (Z : Option Addr) (k kc : Nat) (w : World)
    (hn : l.windows.length = n) (hm : l.bags.length = m) (hq : l.diffs.length = q) (h1 : n ≤ 9223372036854775807) (h2 : m ≤ 9223372036854775807) (h3 : q ≤ 9223372036854775807) (hA : Cells w A 1 encI l.windows) (hB : Cells w B 6 Bag.enc l.bags) (hD : Cells w D 3 Dif.enc l.diffs)
    (hk : acts.length = k) (hk9 : k ≤ 9223372036854775807) (hZ : Cells w Z 6 Act.enc acts) :
    Calls Tryz.prog 3 #[ledV A n c B m d l.office l.bank l.begun l.inn l.out D q e, .slice Z k kc] w fun r w' => r = .returned (.bool true) ∧ Below w.heap.size w w' := by
  have hbw0 := ext_alloc w (.cells #[.slice A n c, .slice B m d, .int .i64 l.office, .int .i64 l.bank, .int .i64 l.begun, .int .i64 l.inn, .int .i64 l.out, .slice D q e] 26)
  have hX0 := Blk.new w 26 [.slice A n c, .slice B m d, .int .i64 l.office, .int .i64 l.bank, .int .i64 l.begun, .int .i64 l.inn, .int .i64 l.out, .slice D q e]
  have CS := Lib.hid (fun W => small_any l A n c B m d D q e W)
  have HM := Lib.hid (fun W (hb : Below w.heap.size w W) (a1 : n ≤ 1000) (a2 : m ≤ 1000) (a3 : q ≤ 1000) => (⟨hn, hm, hq, a1, a2, a3, hA.ext hb, hB.ext hb, hD.ext hb⟩ : LedM W l A n B m D q))
  have HZ := Lib.hid (fun W (hb : Below w.heap.size w W) => hZ.ext hb)
  have Hk := Lib.hid hk
  have CL := Lib.hid (fun W h => Ledger_any l A n c B m d D q e W h)
  have CR := Lib.hid (fun W h => RightL_any l A n c B m d D q e W h)
  have CI := Lib.hid (fun W => In_any (k : Int) 61 200 W)
  clear hA hB hD hn hm hq hk hZ
  unfold ledV at *
  go_enter Tryz.func3, Tryz.ntmps3
  go_upto_region 1 with fail
  change Blk (w.alloc (.cells #[.slice A n c, .slice B m d, .int .i64 l.office, .int .i64 l.bank, .int .i64 l.begun, .int .i64 l.inn, .int .i64 l.out, .slice D q e] 26)) _ _ _ at hX0
  generalize w.alloc (.cells #[.slice A n c, .slice B m d, .int .i64 l.office, .int .i64 l.bank, .int .i64 l.begun, .int .i64 l.inn, .int .i64 l.out, .slice D q e] 26) = W0 at *
  have x0 : W0.cell? ⟨w.heap.size, 0, none⟩ = _ := hX0.cell (i := 0) rfl
  have x1 : W0.cell? ⟨w.heap.size, 1, none⟩ = _ := hX0.cell (i := 1) rfl
  have x2 : W0.cell? ⟨w.heap.size, 2, none⟩ = _ := hX0.cell (i := 2) rfl
  have x3 : W0.cell? ⟨w.heap.size, 3, none⟩ = _ := hX0.cell (i := 3) rfl
  have x4 : W0.cell? ⟨w.heap.size, 4, none⟩ = _ := hX0.cell (i := 4) rfl
  have x5 : W0.cell? ⟨w.heap.size, 5, none⟩ = _ := hX0.cell (i := 5) rfl
  have x6 : W0.cell? ⟨w.heap.size, 6, none⟩ = _ := hX0.cell (i := 6) rfl
  have x7 : W0.cell? ⟨w.heap.size, 7, none⟩ = _ := hX0.cell (i := 7) rfl
  go_wp2_with fail
  refine (CS.out _).mono ?_; rintro r W1 ⟨rfl, hb1⟩
  have hbw1 := ext_trans hbw0 hb1
  have hX1 := hX0.ext hb1
  clear hbw0 hb1 hX0 x0 x1 x2 x3 x4 x5 x6 x7 CS
  obtain ⟨sm, hsm⟩ : ∃ b, (decide (n ≤ 15) && (decide (m ≤ 105) && decide (q ≤ 105))) = b := ⟨_, rfl⟩
  rw [hsm]
  have Hsm := Lib.hid hsm
  clear hsm
  cases sm
  · skip
    go_wp2_with fail
    refine (awake_any _).mono ?_; rintro r wz ⟨rfl, hbz⟩
    go_wp2
    go_ret
    exact ⟨rfl, ext_trans hbw1 hbz⟩
  have hsz : n ≤ 15 ∧ m ≤ 105 ∧ q ≤ 105 := by have := Hsm.out; simpa using this
  obtain ⟨hn15, hm105, hq105⟩ := hsz
  go_wp2_with fail
  refine (CI.out _).mono ?_; rintro r w9 ⟨rfl, rfl⟩
  clear CI
  by_cases h61 : 61 ≤ (k : Int) ∧ (k : Int) ≤ 200
  · rw [decide_eq_true h61]
    clear h61
    go_wp2_with fail
    refine (awake_any _).mono ?_; rintro r wz ⟨rfl, hbz⟩
    go_wp2
    go_ret
    exact ⟨rfl, ext_trans hbw1 hbz⟩
  rw [decide_eq_false h61]
  by_cases h202 : 202 < k
  · have h202' : (202 : Int) < (k : Int) := by omega
    clear h61
    go_wp2_with fail
    refine (awake_any _).mono ?_; rintro r wz ⟨rfl, hbz⟩
    go_wp2
    go_ret
    exact ⟨rfl, ext_trans hbw1 hbz⟩
  have h202' : ¬ (202 : Int) < (k : Int) := by omega
  have hk2 : k ≤ 60 ∨ 200 < k := by omega
  clear h61
  go_upto_region 3 with fail
  have CRun := Lib.hid (fun A c B d D e W hL Z kc hZ => Run_any l A n c B m d D q e W hL acts Z k kc Hk.out (by omega) hZ)
  have CAc := Lib.hid (fun Z kc W hZ => Acts_any acts Z k kc W Hk.out (by omega) hZ)
  have Hrr := Lib.hid (show runR l acts = if !l.okB then (Led.zero, [], 1) else if 200 < k then (Led.zero, [], 3) else ((runL l acts).1, (runL l acts).2, 0) by rw [← Hk.out]; rfl)
  generalize runR l acts = rr at *
  obtain ⟨fl, es, code⟩ := rr
  unfold ledV at CRun
  simp only at CRun Hrr
  have hM := HM.out _ hbw1 (by omega) (by omega) (by omega)
  have hZr := HZ.out _ hbw1
  have x0 : W1.cell? ⟨w.heap.size, 0, none⟩ = _ := hX1.cell (i := 0) rfl
  have x1 : W1.cell? ⟨w.heap.size, 1, none⟩ = _ := hX1.cell (i := 1) rfl
  have x2 : W1.cell? ⟨w.heap.size, 2, none⟩ = _ := hX1.cell (i := 2) rfl
  have x3 : W1.cell? ⟨w.heap.size, 3, none⟩ = _ := hX1.cell (i := 3) rfl
  have x4 : W1.cell? ⟨w.heap.size, 4, none⟩ = _ := hX1.cell (i := 4) rfl
  have x5 : W1.cell? ⟨w.heap.size, 5, none⟩ = _ := hX1.cell (i := 5) rfl
  have x6 : W1.cell? ⟨w.heap.size, 6, none⟩ = _ := hX1.cell (i := 6) rfl
  have x7 : W1.cell? ⟨w.heap.size, 7, none⟩ = _ := hX1.cell (i := 7) rfl
  go_wp2_with fail
  refine (CL.out _ hM).mono ?_; rintro r W2 ⟨A4, c4, B4, d4, D4, e4, rfl, hL4, hb4⟩
  have hbw2 := ext_trans hbw1 hb4
  have hX2 := hX1.ext hb4
  have hZ2 := hZr.ext hb4
  clear x0 x1 x2 x3 x4 x5 x6 x7 hM hZr hX1 hbw1 hb4 CL
  go_wp2_with fail
  refine (CAc.out _ _ _ hZ2).mono ?_; rintro r W3 ⟨va, rfl, ⟨Q, qc, rfl, -, -, hQ, -⟩, hb4⟩
  rw [Hk.out]
  have hbw3 := ext_trans hbw2 hb4
  have hX3 := hX2.ext hb4
  have hL5 := hL4.ext hb4
  clear hZ2 hX2 hbw2 hb4 hL4 CAc
  go_wp2_with fail
  refine (CRun.out _ _ _ _ _ _ _ hL5 _ _ hQ).mono ?_; rintro r W4 ⟨vr, ve, rfl, ⟨A3, n3, c3, B3, m3, d3, D3, q3, e3, rfl, hL6⟩, ⟨E, ec, rfl, -, -, hE, -⟩, hb4⟩
  unfold ledV
  have hbw4 := ext_trans hbw3 hb4
  have hX4 := hX3.ext hb4
  have hal := ext_alloc W4 (.cells #[.slice A3 n3 c3, .slice B3 m3 d3, .int .i64 fl.office, .int .i64 fl.bank, .int .i64 fl.begun, .int .i64 fl.inn, .int .i64 fl.out, .slice D3 q3 e3] 34)
  have hY0 := Blk.new W4 34 [.slice A3 n3 c3, .slice B3 m3 d3, .int .i64 fl.office, .int .i64 fl.bank, .int .i64 fl.begun, .int .i64 fl.inn, .int .i64 fl.out, .slice D3 q3 e3]
  have hX5 := hX4.ext hal
  have hL7 := hL6.m.ext hal
  have hE5 := hE.ext hal
  have hbw5 := ext_trans hbw4 hal
  clear hbw3 hb4 hX3 hL5 hQ CRun hX4 hL6 hE hbw4
  go_upto_region 4 with fail
  change Blk (W4.alloc (.cells #[.slice A3 n3 c3, .slice B3 m3 d3, .int .i64 fl.office, .int .i64 fl.bank, .int .i64 fl.begun, .int .i64 fl.inn, .int .i64 fl.out, .slice D3 q3 e3] 34)) _ _ _ at hY0
  clear hal
  generalize W4.heap.size = Y at *
  generalize W4.alloc (.cells #[.slice A3 n3 c3, .slice B3 m3 d3, .int .i64 fl.office, .int .i64 fl.bank, .int .i64 fl.begun, .int .i64 fl.inn, .int .i64 fl.out, .slice D3 q3 e3] 34) = W5 at *
  have hM := HM.out _ hbw5 (by omega) (by omega) (by omega)
  go_upto_region 5 with fail
  have x0 : W5.cell? ⟨w.heap.size, 0, none⟩ = _ := hX5.cell (i := 0) rfl
  have x1 : W5.cell? ⟨w.heap.size, 1, none⟩ = _ := hX5.cell (i := 1) rfl
  have x2 : W5.cell? ⟨w.heap.size, 2, none⟩ = _ := hX5.cell (i := 2) rfl
  have x3 : W5.cell? ⟨w.heap.size, 3, none⟩ = _ := hX5.cell (i := 3) rfl
  have x4 : W5.cell? ⟨w.heap.size, 4, none⟩ = _ := hX5.cell (i := 4) rfl
  have x5 : W5.cell? ⟨w.heap.size, 5, none⟩ = _ := hX5.cell (i := 5) rfl
  have x6 : W5.cell? ⟨w.heap.size, 6, none⟩ = _ := hX5.cell (i := 6) rfl
  have x7 : W5.cell? ⟨w.heap.size, 7, none⟩ = _ := hX5.cell (i := 7) rfl
  go_wp2_with fail
  refine (CR.out _ hM).mono ?_; rintro r W6 ⟨rfl, hb4⟩
  have hbw6 := ext_trans hbw5 hb4
  have hX6 := hX5.ext hb4
  have hY6 := hY0.ext hb4
  have hL8 := hL7.ext hb4
  have hE6 := hE5.ext hb4
  clear hb4 hX5 hY0 hL7 hE5 hM x0 x1 x2 x3 x4 x5 x6 x7 CR hbw5
  cases hok : l.okB
  · have hf := Hrr.out
    rw [hok] at hf
    simp only [Bool.not_false, if_true, Prod.mk.injEq] at hf
    obtain ⟨rfl, rfl, rfl⟩ := hf
    obtain rfl : n3 = 0 := hL8.hn.symm
    obtain rfl : m3 = 0 := hL8.hm.symm
    obtain rfl : q3 = 0 := hL8.hq.symm
    have CAl := Lib.hid (alike_self Led.zero A3 0 c3 B3 0 d3 D3 0 e3 none 0 none 0 none 0 W6 hL8 (lz_m W6))
    unfold ledV at CAl
    simp only [Led.zero] at CAl hY6
    simp only [List.length_nil]
    have y0 : W6.cell? ⟨Y, 0, none⟩ = _ := hY6.cell (i := 0) rfl
    have y1 : W6.cell? ⟨Y, 1, none⟩ = _ := hY6.cell (i := 1) rfl
    have y2 : W6.cell? ⟨Y, 2, none⟩ = _ := hY6.cell (i := 2) rfl
    have y3 : W6.cell? ⟨Y, 3, none⟩ = _ := hY6.cell (i := 3) rfl
    have y4 : W6.cell? ⟨Y, 4, none⟩ = _ := hY6.cell (i := 4) rfl
    have y5 : W6.cell? ⟨Y, 5, none⟩ = _ := hY6.cell (i := 5) rfl
    have y6 : W6.cell? ⟨Y, 6, none⟩ = _ := hY6.cell (i := 6) rfl
    have y7 : W6.cell? ⟨Y, 7, none⟩ = _ := hY6.cell (i := 7) rfl
    go_wp2_with fail
    refine CAl.out.mono ?_; rintro r W7 ⟨rfl, hb4⟩
    have hbw7 := ext_trans hbw6 hb4
    clear y0 y1 y2 y3 y4 y5 y6 y7 CAl
    go_wp2_with fail
    refine (awake_any _).mono ?_; rintro r wz ⟨rfl, hbz⟩
    go_wp2
    go_ret
    exact ⟨rfl, ext_trans hbw7 hbz⟩
  obtain ⟨hmon, hq9, -, -⟩ := ok_mon hok
  by_cases h200 : 200 < k
  · have h200' : (200 : Int) < (k : Int) := by omega
    have hf := Hrr.out
    rw [hok] at hf
    simp only [Bool.not_true, Bool.false_eq_true, if_false, h200, if_true, Prod.mk.injEq] at hf
    obtain ⟨rfl, rfl, rfl⟩ := hf
    obtain rfl : n3 = 0 := hL8.hn.symm
    obtain rfl : m3 = 0 := hL8.hm.symm
    obtain rfl : q3 = 0 := hL8.hq.symm
    have CAl := Lib.hid (alike_self Led.zero A3 0 c3 B3 0 d3 D3 0 e3 none 0 none 0 none 0 W6 hL8 (lz_m W6))
    unfold ledV at CAl
    simp only [Led.zero] at CAl hY6
    simp only [List.length_nil]
    have y0 : W6.cell? ⟨Y, 0, none⟩ = _ := hY6.cell (i := 0) rfl
    have y1 : W6.cell? ⟨Y, 1, none⟩ = _ := hY6.cell (i := 1) rfl
    have y2 : W6.cell? ⟨Y, 2, none⟩ = _ := hY6.cell (i := 2) rfl
    have y3 : W6.cell? ⟨Y, 3, none⟩ = _ := hY6.cell (i := 3) rfl
    have y4 : W6.cell? ⟨Y, 4, none⟩ = _ := hY6.cell (i := 4) rfl
    have y5 : W6.cell? ⟨Y, 5, none⟩ = _ := hY6.cell (i := 5) rfl
    have y6 : W6.cell? ⟨Y, 6, none⟩ = _ := hY6.cell (i := 6) rfl
    have y7 : W6.cell? ⟨Y, 7, none⟩ = _ := hY6.cell (i := 7) rfl
    go_wp2_with fail
    refine CAl.out.mono ?_; rintro r W7 ⟨rfl, hb4⟩
    have hbw7 := ext_trans hbw6 hb4
    clear y0 y1 y2 y3 y4 y5 y6 y7 CAl
    go_wp2_with fail
    refine (awake_any _).mono ?_; rintro r wz ⟨rfl, hbz⟩
    go_wp2
    go_ret
    exact ⟨rfl, ext_trans hbw7 hbz⟩
  have h200' : ¬ (200 : Int) < (k : Int) := by omega
  have hf := Hrr.out
  rw [hok] at hf
  simp only [Bool.not_true, Bool.false_eq_true, if_false, h200, Prod.mk.injEq] at hf
  obtain ⟨hf1, hf2, rfl⟩ := hf
  have hM := HM.out _ hbw6 (by omega) (by omega) (by omega)
  rw [hM.hq] at hq9
  have CRR := Lib.hid (RunRef_any l acts A n c B m d D q e Z k kc W6 hM hmon (by omega) Hk.out (HZ.out _ hbw6))
  rw [← hf1, ← hf2] at CRR
  have Hel := Lib.hid (show es.length = k by rw [hf2, runL_len]; exact Hk.out)
  unfold ledV at CRR
  clear hf1 hf2 Hrr hmon hM
  rw [Hel.out]
  go_upto_region 11 with fail
  have x0 : W6.cell? ⟨w.heap.size, 0, none⟩ = _ := hX6.cell (i := 0) rfl
  have x1 : W6.cell? ⟨w.heap.size, 1, none⟩ = _ := hX6.cell (i := 1) rfl
  have x2 : W6.cell? ⟨w.heap.size, 2, none⟩ = _ := hX6.cell (i := 2) rfl
  have x3 : W6.cell? ⟨w.heap.size, 3, none⟩ = _ := hX6.cell (i := 3) rfl
  have x4 : W6.cell? ⟨w.heap.size, 4, none⟩ = _ := hX6.cell (i := 4) rfl
  have x5 : W6.cell? ⟨w.heap.size, 5, none⟩ = _ := hX6.cell (i := 5) rfl
  have x6 : W6.cell? ⟨w.heap.size, 6, none⟩ = _ := hX6.cell (i := 6) rfl
  have x7 : W6.cell? ⟨w.heap.size, 7, none⟩ = _ := hX6.cell (i := 7) rfl
  go_wp2_with fail
  refine CRR.out.mono ?_; rintro r W7 ⟨v7, u7, rfl, ⟨A5, n5, c5, B5, m5, d5, D5, q5, e5, rfl, hL9⟩, ⟨G, gc, rfl, -, -, hG, -⟩, hb4⟩
  unfold ledV
  rw [Hel.out]
  have hbw7 := ext_trans hbw6 hb4
  have hY7 := hY6.ext hb4
  have hLa := hL8.ext hb4
  have hE7 := hE6.ext hb4
  have hal := ext_alloc W7 (.cells #[.slice A5 n5 c5, .slice B5 m5 d5, .int .i64 fl.office, .int .i64 fl.bank, .int .i64 fl.begun, .int .i64 fl.inn, .int .i64 fl.out, .slice D5 q5 e5] 26)
  have hT0 := Blk.new W7 26 [.slice A5 n5 c5, .slice B5 m5 d5, .int .i64 fl.office, .int .i64 fl.bank, .int .i64 fl.begun, .int .i64 fl.inn, .int .i64 fl.out, .slice D5 q5 e5]
  have hY8 := hY7.ext hal
  have hLb := hLa.ext hal
  have hLc := hL9.ext hal
  have hE8 := hE7.ext hal
  have hG8 := hG.ext hal
  have hbw8 := ext_trans hbw7 hal
  clear x0 x1 x2 x3 x4 x5 x6 x7 hb4 hX6 hY6 hL8 hE6 hbw6 hY7 hLa hE7 hL9 hG hbw7 CRR
  go_upto_region 12 with fail
  change Blk (W7.alloc (.cells #[.slice A5 n5 c5, .slice B5 m5 d5, .int .i64 fl.office, .int .i64 fl.bank, .int .i64 fl.begun, .int .i64 fl.inn, .int .i64 fl.out, .slice D5 q5 e5] 26)) _ _ _ at hT0
  clear hal
  generalize W7.heap.size = T at *
  generalize W7.alloc (.cells #[.slice A5 n5 c5, .slice B5 m5 d5, .int .i64 fl.office, .int .i64 fl.bank, .int .i64 fl.begun, .int .i64 fl.inn, .int .i64 fl.out, .slice D5 q5 e5] 26) = W8 at *
  obtain rfl : n3 = n5 := hLb.hn.symm.trans hLc.hn
  obtain rfl : m3 = m5 := hLb.hm.symm.trans hLc.hm
  obtain rfl : q3 = q5 := hLb.hq.symm.trans hLc.hq
  have CSA := Lib.hid (same_self fl A3 n3 c3 B3 m3 d3 D3 q3 e3 A5 c5 B5 d5 D5 e5 W8 hLb hLc)
  unfold ledV at CSA
  have y0 : W8.cell? ⟨Y, 0, none⟩ = _ := hY8.cell (i := 0) rfl
  have y1 : W8.cell? ⟨Y, 1, none⟩ = _ := hY8.cell (i := 1) rfl
  have y2 : W8.cell? ⟨Y, 2, none⟩ = _ := hY8.cell (i := 2) rfl
  have y3 : W8.cell? ⟨Y, 3, none⟩ = _ := hY8.cell (i := 3) rfl
  have y4 : W8.cell? ⟨Y, 4, none⟩ = _ := hY8.cell (i := 4) rfl
  have y5 : W8.cell? ⟨Y, 5, none⟩ = _ := hY8.cell (i := 5) rfl
  have y6 : W8.cell? ⟨Y, 6, none⟩ = _ := hY8.cell (i := 6) rfl
  have y7 : W8.cell? ⟨Y, 7, none⟩ = _ := hY8.cell (i := 7) rfl
  have z0 : W8.cell? ⟨T, 0, none⟩ = _ := hT0.cell (i := 0) rfl
  have z1 : W8.cell? ⟨T, 1, none⟩ = _ := hT0.cell (i := 1) rfl
  have z2 : W8.cell? ⟨T, 2, none⟩ = _ := hT0.cell (i := 2) rfl
  have z3 : W8.cell? ⟨T, 3, none⟩ = _ := hT0.cell (i := 3) rfl
  have z4 : W8.cell? ⟨T, 4, none⟩ = _ := hT0.cell (i := 4) rfl
  have z5 : W8.cell? ⟨T, 5, none⟩ = _ := hT0.cell (i := 5) rfl
  have z6 : W8.cell? ⟨T, 6, none⟩ = _ := hT0.cell (i := 6) rfl
  have z7 : W8.cell? ⟨T, 7, none⟩ = _ := hT0.cell (i := 7) rfl
  go_wp2_with fail
  refine CSA.out.mono ?_; rintro r W9 ⟨rfl, hb4⟩
  have hbw9 := ext_trans hbw8 hb4
  have hE9 := hE8.ext hb4
  have hG9 := hG8.ext hb4
  clear y0 y1 y2 y3 y4 y5 y6 y7 z0 z1 z2 z3 z4 z5 z6 z7 CSA hb4 hE8 hG8 hbw8 hY8 hT0 hLb hLc
  go_upto_region 14 with fail
  go_wp2
  go_loopw [11] (fun x wr => ∃ j : Nat, x = .int .i64 j ∧ j ≤ k ∧ Below W9.heap.size W9 wr) (fun x _ => k - (intOf x).toNat)
  case atStart => exact ⟨0, rfl, by omega, Below.refl _ _⟩
  case round =>
    obtain ⟨j, rfl, hj, hb⟩ := hrel
    by_cases hlt : j < k
    · have hlt' : (j : Int) < (k : Int) := by omega
      have hjl : j < es.length := by rw [Hel.out]; exact hlt
      go_upto_region 17 with fail
      refine Dr.wp_region_plan 9 [] (.q [0, 1, 2, 3, 4, 5, 6, 7, 8] .done) (by kernel_rfl) (by kernel_rfl) ?_
      have hbd := hb.drew
      clear hb
      generalize World.drew _ = V at *
      obtain ⟨o, p, rfl, -, c0⟩ := (hE9.ext hbd).at1 hjl rfl
      obtain ⟨o2, p2, rfl, -, c1⟩ := (hG9.ext hbd).at1 hjl rfl
      generalize es[j] = v at *
      have r0 := Dr.cell0 c0
      have r1 := Dr.cell0 c1
      refine Dr.plan_q (l := [_, _, _, _, _, _, _, _, _]) rfl (fun K hK => ?_)
      iterate 9 (go_big_quiet_step (fail))
      refine wpQuiet_nil (hK _ ?_); clear hK K
      refine Dr.plan_end rfl ?_
      clear r0 r1 c0 c1
      go_wp2
      go_roundw
      case rel => exact ⟨j + 1, by go_num, by omega, hbd⟩
      case measure => simp [intOf]; omega
    · obtain rfl : j = k := by omega
      have hbz2 := ext_trans hbw9 hb
      go_wp2_with fail
      refine (awake_any _).mono ?_; rintro r wz ⟨rfl, hbz⟩
      go_wp2
      go_ret
      exact ⟨rfl, ext_trans hbz2 hbz⟩
end Go.Proofs.YtnjdlhhgnamigaaGreat

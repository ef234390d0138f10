/- Walk: two equal ledgers are alike. -/
import Derived.Test.YtnjdlhhgnamigaaGreatLgnC
namespace Go.Proofs.YtnjdlhhgnamigaaGreat
open Go.RowKit Go.Bs Go.Pu Go.Pl Go.Sort
set_option maxRecDepth 100000 in
set_option maxHeartbeats 4000000 in
theorem alike_self (l : Led) (A : Option Addr) (n c : Nat) (B : Option Addr) (m d : Nat) (D : Option Addr) (q e : Nat) (A2 : Option Addr) (c2 : Nat) (B2 : Option Addr) (d2 : Nat) (D2 : Option Addr) (e2 : Nat) (w : World) (hL : LedM w l A n B m D q) (hL2 : LedM w l A2 n B2 m D2 q) :
    Calls Tryz.prog 12 #[ledV A n c B m d l.office l.bank l.begun l.inn l.out D q e, ledV A2 n c2 B2 m d2 l.office l.bank l.begun l.inn l.out D2 q e2] w fun r w' => r = .returned (.bool true) ∧ Below w.heap.size w w' := by
  have hb0 := (ext_alloc w (.cells #[.slice A n c, .slice B m d, .int .i64 l.office, .int .i64 l.bank, .int .i64 l.begun, .int .i64 l.inn, .int .i64 l.out, .slice D q e] 34)).trans ((ext_alloc _ (.cells #[.slice A2 n c2, .slice B2 m d2, .int .i64 l.office, .int .i64 l.bank, .int .i64 l.begun, .int .i64 l.inn, .int .i64 l.out, .slice D2 q e2] 34)).mono (by simp))
  have hX := (Blk.new w 34 [.slice A n c, .slice B m d, .int .i64 l.office, .int .i64 l.bank, .int .i64 l.begun, .int .i64 l.inn, .int .i64 l.out, .slice D q e]).alloc (.cells #[.slice A2 n c2, .slice B2 m d2, .int .i64 l.office, .int .i64 l.bank, .int .i64 l.begun, .int .i64 l.inn, .int .i64 l.out, .slice D2 q e2] 34)
  have hY := Blk.new (w.alloc (.cells #[.slice A n c, .slice B m d, .int .i64 l.office, .int .i64 l.bank, .int .i64 l.begun, .int .i64 l.inn, .int .i64 l.out, .slice D q e] 34)) 34 [.slice A2 n c2, .slice B2 m d2, .int .i64 l.office, .int .i64 l.bank, .int .i64 l.begun, .int .i64 l.inn, .int .i64 l.out, .slice D2 q e2]
  rw [World.size_alloc] at hY
  have hM := hL.ext hb0
  have hM2 := hL2.ext hb0
  unfold ledV
  clear hL hL2
  go_enter Tryz.func12, Tryz.ntmps12
  go_upto_region 1 with fail
  change Blk ((w.alloc (.cells #[.slice A n c, .slice B m d, .int .i64 l.office, .int .i64 l.bank, .int .i64 l.begun, .int .i64 l.inn, .int .i64 l.out, .slice D q e] 34)).alloc (.cells #[.slice A2 n c2, .slice B2 m d2, .int .i64 l.office, .int .i64 l.bank, .int .i64 l.begun, .int .i64 l.inn, .int .i64 l.out, .slice D2 q e2] 34)) _ _ _ at hX
  change Blk ((w.alloc (.cells #[.slice A n c, .slice B m d, .int .i64 l.office, .int .i64 l.bank, .int .i64 l.begun, .int .i64 l.inn, .int .i64 l.out, .slice D q e] 34)).alloc (.cells #[.slice A2 n c2, .slice B2 m d2, .int .i64 l.office, .int .i64 l.bank, .int .i64 l.begun, .int .i64 l.inn, .int .i64 l.out, .slice D2 q e2] 34)) _ _ _ at hY
  generalize (w.alloc (.cells #[.slice A n c, .slice B m d, .int .i64 l.office, .int .i64 l.bank, .int .i64 l.begun, .int .i64 l.inn, .int .i64 l.out, .slice D q e] 34)).alloc (.cells #[.slice A2 n c2, .slice B2 m d2, .int .i64 l.office, .int .i64 l.bank, .int .i64 l.begun, .int .i64 l.inn, .int .i64 l.out, .slice D2 q e2] 34) = W0 at *
  have CI := Lib.hid (ints_any A A2 n n c c2 l.windows l.windows W0 hM.hn hM.hn (by have := hM.n9; omega) (by have := hM.n9; omega) hM.a hM2.a)
  rw [decide_eq_true rfl] at CI
  have Hm := Lib.hid hM.hm
  have Hq := Lib.hid hM.hq
  have hm9 := hM.m9
  have hq9 := hM.q9
  have hB := hM.b
  have hB2 := hM2.b
  have hD := hM.d
  have hD2 := hM2.d
  clear hM hM2
  have x0 : W0.cell? ⟨w.heap.size, 0, none⟩ = _ := hX.cell (i := 0) rfl
  have y0 : W0.cell? ⟨(w.heap.size + 1), 0, none⟩ = _ := hY.cell (i := 0) rfl
  go_wp2_with fail
  refine CI.out.mono ?_; rintro r W1 ⟨rfl, hb1⟩
  have hX1 := hX.ext hb1
  have hY1 := hY.ext hb1
  have hbw1 := ext_trans hb0 hb1
  have hB := hB.ext hb1
  have hB2 := hB2.ext hb1
  have hD := hD.ext hb1
  have hD2 := hD2.ext hb1
  clear x0 y0 hX hY hb0 hb1 CI
  have x1 : W1.cell? ⟨w.heap.size, 1, none⟩ = _ := hX1.cell (i := 1) rfl
  have x2 : W1.cell? ⟨w.heap.size, 2, none⟩ = _ := hX1.cell (i := 2) rfl
  have x3 : W1.cell? ⟨w.heap.size, 3, none⟩ = _ := hX1.cell (i := 3) rfl
  have x4 : W1.cell? ⟨w.heap.size, 4, none⟩ = _ := hX1.cell (i := 4) rfl
  have x5 : W1.cell? ⟨w.heap.size, 5, none⟩ = _ := hX1.cell (i := 5) rfl
  have x6 : W1.cell? ⟨w.heap.size, 6, none⟩ = _ := hX1.cell (i := 6) rfl
  have x7 : W1.cell? ⟨w.heap.size, 7, none⟩ = _ := hX1.cell (i := 7) rfl
  have y1 : W1.cell? ⟨(w.heap.size + 1), 1, none⟩ = _ := hY1.cell (i := 1) rfl
  have y2 : W1.cell? ⟨(w.heap.size + 1), 2, none⟩ = _ := hY1.cell (i := 2) rfl
  have y3 : W1.cell? ⟨(w.heap.size + 1), 3, none⟩ = _ := hY1.cell (i := 3) rfl
  have y4 : W1.cell? ⟨(w.heap.size + 1), 4, none⟩ = _ := hY1.cell (i := 4) rfl
  have y5 : W1.cell? ⟨(w.heap.size + 1), 5, none⟩ = _ := hY1.cell (i := 5) rfl
  have y6 : W1.cell? ⟨(w.heap.size + 1), 6, none⟩ = _ := hY1.cell (i := 6) rfl
  have y7 : W1.cell? ⟨(w.heap.size + 1), 7, none⟩ = _ := hY1.cell (i := 7) rfl
  go_wp2
  clear x1 x2 x3 x4 x5 x6 x7 y1 y2 y3 y4 y5 y6 y7
  go_loopw [5] (fun x wr => ∃ k : Nat, x = .int .i64 k ∧ k ≤ m ∧ Below W1.heap.size W1 wr) (fun x _ => m - (intOf x).toNat)
  case atStart => exact ⟨0, rfl, by omega, Below.refl _ _⟩
  case round =>
    obtain ⟨k, rfl, hk, hb⟩ := hrel
    have xx : wr.cell? ⟨w.heap.size, 1, none⟩ = _ := (hX1.ext hb).cell (i := 1) rfl
    by_cases hlt : k < m
    · have hlt' : (k : Int) < m := by omega
      have hk1 : k < l.bags.length := by rw [Hm.out]; exact hlt
      go_upto_region 6 with fail
      clear xx
      refine Dr.wp_region_plan 11 [] (.q [0, 1, 2, 3, 4, 5, 6, 7, 8, 9, 10] .done) (by kernel_rfl) (by kernel_rfl) ?_
      have hb2 := hb.drew
      clear hb
      generalize World.drew _ = V at *
      obtain ⟨o1, p1, rfl, -, a0, a1, a2, a3, a4, a5⟩ := (hB.ext hb2).at6 hk1 rfl
      obtain ⟨o2, p2, rfl, -, b0, b1, b2, b3, b4, b5⟩ := (hB2.ext hb2).at6 hk1 rfl
      generalize l.bags[k] = x at *
      obtain ⟨k0, k1, k2, k3, k4, k5⟩ := x
      simp only at a0 a1 a2 a3 a4 a5 b0 b1 b2 b3 b4 b5
      have a0 := Dr.cell0 a0
      have a1 := Dr.cell0 a1
      have a2 := Dr.cell0 a2
      have a3 := Dr.cell0 a3
      have a4 := Dr.cell0 a4
      have a5 := Dr.cell0 a5
      have b0 := Dr.cell0 b0
      have b1 := Dr.cell0 b1
      have b2 := Dr.cell0 b2
      have b3 := Dr.cell0 b3
      have b4 := Dr.cell0 b4
      have b5 := Dr.cell0 b5
      have x1 := Dr.cell0 ((hX1.ext hb2).cell (i := 1) rfl)
      have y1 := Dr.cell0 ((hY1.ext hb2).cell (i := 1) rfl)
      refine Dr.plan_q (l := [_, _, _, _, _, _, _, _, _, _, _]) rfl (fun K hK => ?_)
      iterate 11 (go_big_quiet_step (fail))
      refine wpQuiet_nil (hK _ ?_); clear hK K
      refine Dr.plan_end rfl ?_
      clear x1 y1 a0 a1 a2 a3 a4 a5 b0 b1 b2 b3 b4 b5
      go_wp2
      go_roundw
      case rel => exact ⟨k + 1, by go_num, by omega, hb2⟩
      case measure => simp [intOf]; omega
    · obtain rfl : k = m := by omega
      have hbw2 := ext_trans hbw1 hb
      have hX2 := hX1.ext hb
      have hY2 := hY1.ext hb
      have hD := hD.ext hb
      have hD2 := hD2.ext hb
      clear hbw1 hX1 hY1 hb hB hB2
      go_wp2
      clear xx
      generalize wr = W2 at *
      go_loopw [6] (fun x wr => ∃ k : Nat, x = .int .i64 k ∧ k ≤ q ∧ Below W2.heap.size W2 wr) (fun x _ => q - (intOf x).toNat)
      case atStart => exact ⟨0, rfl, by omega, Below.refl _ _⟩
      case round =>
        obtain ⟨j, rfl, hj, hb⟩ := hrel
        have xx : wr.cell? ⟨w.heap.size, 7, none⟩ = _ := (hX2.ext hb).cell (i := 7) rfl
        by_cases hlt : j < q
        · have hlt' : (j : Int) < q := by omega
          have hk1 : j < l.diffs.length := by rw [Hq.out]; exact hlt
          go_upto_region 11 with fail
          clear xx
          refine Dr.wp_region_plan 11 [] (.q [0, 1, 2, 3, 4, 5, 6, 7, 8, 9, 10] .done) (by kernel_rfl) (by kernel_rfl) ?_
          have hb2 := hb.drew
          clear hb
          generalize World.drew _ = V at *
          obtain ⟨o1, p1, rfl, -, a0, a1, a2⟩ := (hD.ext hb2).at3 hk1 rfl
          obtain ⟨o2, p2, rfl, -, b0, b1, b2⟩ := (hD2.ext hb2).at3 hk1 rfl
          generalize l.diffs[j] = x at *
          obtain ⟨k0, k1, k2⟩ := x
          simp only at a0 a1 a2 b0 b1 b2
          have a0 := Dr.cell0 a0
          have a1 := Dr.cell0 a1
          have a2 := Dr.cell0 a2
          have b0 := Dr.cell0 b0
          have b1 := Dr.cell0 b1
          have b2 := Dr.cell0 b2
          have x1 := Dr.cell0 ((hX2.ext hb2).cell (i := 7) rfl)
          have y1 := Dr.cell0 ((hY2.ext hb2).cell (i := 7) rfl)
          refine Dr.plan_q (l := [_, _, _, _, _, _, _, _, _, _, _]) rfl (fun K hK => ?_)
          iterate 11 (go_big_quiet_step (fail))
          refine wpQuiet_nil (hK _ ?_); clear hK K
          refine Dr.plan_end rfl ?_
          clear x1 y1 a0 a1 a2 b0 b1 b2
          go_wp2
          go_roundw
          case rel => exact ⟨j + 1, by go_num, by omega, hb2⟩
          case measure => simp [intOf]; omega
        · obtain rfl : j = q := by omega
          go_wp2
          go_ret
          exact ⟨rfl, ext_trans hbw2 hb⟩

set_option maxRecDepth 100000 in
set_option maxHeartbeats 4000000 in
theorem same_self (l : Led) (A : Option Addr) (n c : Nat) (B : Option Addr) (m d : Nat) (D : Option Addr) (q e : Nat) (A2 : Option Addr) (c2 : Nat) (B2 : Option Addr) (d2 : Nat) (D2 : Option Addr) (e2 : Nat) (w : World) (hL : LedM w l A n B m D q) (hL2 : LedM w l A2 n B2 m D2 q) :
    Calls Tryz.prog 14 #[ledV A n c B m d l.office l.bank l.begun l.inn l.out D q e, ledV A2 n c2 B2 m d2 l.office l.bank l.begun l.inn l.out D2 q e2] w fun r w' => r = .returned (.bool true) ∧ Below w.heap.size w w' := by
  have hb0 := (ext_alloc w (.cells #[.slice A n c, .slice B m d, .int .i64 l.office, .int .i64 l.bank, .int .i64 l.begun, .int .i64 l.inn, .int .i64 l.out, .slice D q e] 34)).trans ((ext_alloc _ (.cells #[.slice A2 n c2, .slice B2 m d2, .int .i64 l.office, .int .i64 l.bank, .int .i64 l.begun, .int .i64 l.inn, .int .i64 l.out, .slice D2 q e2] 26)).mono (by simp))
  have hX := (Blk.new w 34 [.slice A n c, .slice B m d, .int .i64 l.office, .int .i64 l.bank, .int .i64 l.begun, .int .i64 l.inn, .int .i64 l.out, .slice D q e]).alloc (.cells #[.slice A2 n c2, .slice B2 m d2, .int .i64 l.office, .int .i64 l.bank, .int .i64 l.begun, .int .i64 l.inn, .int .i64 l.out, .slice D2 q e2] 26)
  have hY := Blk.new (w.alloc (.cells #[.slice A n c, .slice B m d, .int .i64 l.office, .int .i64 l.bank, .int .i64 l.begun, .int .i64 l.inn, .int .i64 l.out, .slice D q e] 34)) 26 [.slice A2 n c2, .slice B2 m d2, .int .i64 l.office, .int .i64 l.bank, .int .i64 l.begun, .int .i64 l.inn, .int .i64 l.out, .slice D2 q e2]
  rw [World.size_alloc] at hY
  have hM := hL.ext hb0
  have hM2 := hL2.ext hb0
  have CL := Lib.hid (fun W h => Ledger_any l A2 n c2 B2 m d2 D2 q e2 W h)
  have CA := Lib.hid (fun A3 c3 B3 d3 D3 e3 W h1 h2 => alike_self l A n c B m d D q e A3 c3 B3 d3 D3 e3 W h1 h2)
  unfold ledV at *
  clear hL hL2
  go_enter Tryz.func14, Tryz.ntmps14
  go_upto_region 1 with fail
  change Blk ((w.alloc (.cells #[.slice A n c, .slice B m d, .int .i64 l.office, .int .i64 l.bank, .int .i64 l.begun, .int .i64 l.inn, .int .i64 l.out, .slice D q e] 34)).alloc (.cells #[.slice A2 n c2, .slice B2 m d2, .int .i64 l.office, .int .i64 l.bank, .int .i64 l.begun, .int .i64 l.inn, .int .i64 l.out, .slice D2 q e2] 26)) _ _ _ at hX
  change Blk ((w.alloc (.cells #[.slice A n c, .slice B m d, .int .i64 l.office, .int .i64 l.bank, .int .i64 l.begun, .int .i64 l.inn, .int .i64 l.out, .slice D q e] 34)).alloc (.cells #[.slice A2 n c2, .slice B2 m d2, .int .i64 l.office, .int .i64 l.bank, .int .i64 l.begun, .int .i64 l.inn, .int .i64 l.out, .slice D2 q e2] 26)) _ _ _ at hY
  generalize (w.alloc (.cells #[.slice A n c, .slice B m d, .int .i64 l.office, .int .i64 l.bank, .int .i64 l.begun, .int .i64 l.inn, .int .i64 l.out, .slice D q e] 34)).alloc (.cells #[.slice A2 n c2, .slice B2 m d2, .int .i64 l.office, .int .i64 l.bank, .int .i64 l.begun, .int .i64 l.inn, .int .i64 l.out, .slice D2 q e2] 26) = W0 at *
  refine Dr.wp_region_plan 5 [] (.q [0, 1] (.e1 2 (.e1 3 (.q [4] .done)))) (by kernel_rfl) (by kernel_rfl) ?_
  have hdr : Below W0.heap.size W0 W0.drew := (Below.refl _ _).drew
  have hb1 := ext_trans hb0 hdr
  have hX1 := hX.ext hdr
  have hY1 := hY.ext hdr
  have hM := hM.ext hdr
  have hM2 := hM2.ext hdr
  clear hb0 hX hY hdr
  generalize World.drew _ = V at *
  have x0 := Dr.cell0 (hX1.cell (i := 0) rfl)
  have y0 := Dr.cell0 (hY1.cell (i := 0) rfl)
  have x1 := Dr.cell0 (hX1.cell (i := 1) rfl)
  have y1 := Dr.cell0 (hY1.cell (i := 1) rfl)
  have x2 := Dr.cell0 (hX1.cell (i := 2) rfl)
  have y2 := Dr.cell0 (hY1.cell (i := 2) rfl)
  have x3 := Dr.cell0 (hX1.cell (i := 3) rfl)
  have y3 := Dr.cell0 (hY1.cell (i := 3) rfl)
  have x4 := Dr.cell0 (hX1.cell (i := 4) rfl)
  have y4 := Dr.cell0 (hY1.cell (i := 4) rfl)
  have x5 := Dr.cell0 (hX1.cell (i := 5) rfl)
  have y5 := Dr.cell0 (hY1.cell (i := 5) rfl)
  have x6 := Dr.cell0 (hX1.cell (i := 6) rfl)
  have y6 := Dr.cell0 (hY1.cell (i := 6) rfl)
  have x7 := Dr.cell0 (hX1.cell (i := 7) rfl)
  have y7 := Dr.cell0 (hY1.cell (i := 7) rfl)
  refine Dr.plan_q (l := [_, _]) rfl (fun K hK => ?_)
  iterate 2 (go_big_quiet_step (fail))
  refine wpQuiet_nil (hK _ ?_); clear hK K
  clear x0 x1 x2 x3 x4 x5 x6 x7 y0 y1 y2 y3 y4 y5 y6 y7
  refine Dr.plan_e rfl (by rfl) (fun K hK => ?_)
  go_wp2_with fail
  refine (CL.out _ hM2).mono ?_; rintro r W1 ⟨A3, c3, B3, d3, D3, e3, rfl, hM3, hb2⟩
  have hM := hM.ext hb2
  go_wp2
  refine hK _ _ (.of hb2) ?_; clear hK K
  refine Dr.plan_e rfl (by rfl) (fun K hK => ?_)
  go_wp2_with fail
  refine (CA.out _ _ _ _ _ _ _ hM hM3).mono ?_; rintro r W2 ⟨rfl, hb3⟩
  go_wp2
  refine hK _ _ (.of hb3) ?_; clear hK K
  refine Dr.plan_q (l := [_]) rfl (fun K hK => ?_)
  iterate 1 (go_big_quiet_step (fail))
  refine wpQuiet_nil (hK _ ?_); clear hK K
  refine Dr.plan_end rfl ?_
  go_wp2
  go_ret
  exact ⟨rfl, ext_trans (ext_trans hb1 hb2) hb3⟩
end Go.Proofs.YtnjdlhhgnamigaaGreat

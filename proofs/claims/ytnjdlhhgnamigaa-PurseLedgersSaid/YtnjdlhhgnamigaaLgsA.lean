/- Walk: the law PurseLedgers. -/
import Derived.Test.YtnjdlhhgnamigaaAwC
import Derived.Test.YtnjdlhhgnamigaaLgnF
import Derived.Test.YtnjdlhhgnamigaaLgnG
namespace Go.Pu
theorem beginL_code (l : List Int) (o : Int) : (beginL l o).2 = 0 ∨ (beginL l o).2 = 2 := by
  unfold beginL
  simp only
  repeat' split
  all_goals simp
end Go.Pu
namespace Go.Proofs.Ytnjdlhhgnamigaa
open Go.RowKit Go.Bs Go.Pu Go.Pl Go.Sort
set_option maxRecDepth 100000 in
set_option maxHeartbeats 8000000 in
theorem ledgers_law (F : Option Addr) (f g : Nat) (wins : List Int) (o : Int) (l : Led) (A : Option Addr) (n c : Nat) (B : Option Addr) (m d : Nat) (D : Option Addr) (q e : Nat) (win : Int) (w : World) (hf : wins.length = f) (hf9 : f ≤ 9223372036854775807) (hF : Cells w F 1 encI wins)
    (hn : l.windows.length = n) (hm : l.bags.length = m) (hq : l.diffs.length = q) (h1 : n ≤ 9223372036854775807) (h2 : m ≤ 9223372036854775807) (h3 : q ≤ 9223372036854775807) (hA : Cells w A 1 encI l.windows) (hB : Cells w B 6 Bag.enc l.bags) (hD : Cells w D 3 Dif.enc l.diffs) :
    Calls Try.prog 12 #[.slice F f g, .int .i64 o, ledV A n c B m d l.office l.bank l.begun l.inn l.out D q e, .int .i64 win] w fun r w' => r = .returned (.bool true) ∧ Below w.heap.size w w' := by
  have hbw0 := ext_alloc w (.cells #[.slice A n c, .slice B m d, .int .i64 l.office, .int .i64 l.bank, .int .i64 l.begun, .int .i64 l.inn, .int .i64 l.out, .slice D q e] 75)
  have hX0 := Blk.new w 75 [.slice A n c, .slice B m d, .int .i64 l.office, .int .i64 l.bank, .int .i64 l.begun, .int .i64 l.inn, .int .i64 l.out, .slice D q e]
  have CS := Lib.hid (fun W => small_any l A n c B m d D q e W)
  have HM := Lib.hid (fun W (hb : Below w.heap.size w W) (a1 : n ≤ 1000) (a2 : m ≤ 1000) (a3 : q ≤ 1000) => (⟨hn, hm, hq, a1, a2, a3, hA.ext hb, hB.ext hb, hD.ext hb⟩ : LedM W l A n B m D q))
  have HF := Lib.hid (fun W (hb : Below w.heap.size w W) => hF.ext hb)
  have Hf := Lib.hid hf
  have Hn := Lib.hid hn
  have CL := Lib.hid (fun W h => Ledger_any l A n c B m d D q e W h)
  have CR := Lib.hid (fun W h => RightL_any l A n c B m d D q e W h)
  have CTR := Lib.hid (fun W h hk => TotalR_any l A n c B m d D q e W h hk)
  have CMR := Lib.hid (fun W h hk => MissingR_any l A n c B m d D q e win W h hk)
  have CT := Lib.hid (fun A c B d D e W h => TotalP_any l A n c B m d D q e W h)
  have CM := Lib.hid (fun A c B d D e W h => Missing_any l A n c B m d D q e win W h)
  have CK := Lib.hid (fun A c B d D e W h => CheckL_any l A n c B m d D q e W h)
  have CB := Lib.hid (fun A g W h9 h => Begin_any wins A f g o W hf h9 h)
  have CBR := Lib.hid (fun W h9 h => BeginR_any wins F f g o W hf h9 h)
  have CSA := Lib.hid (fun l A n c B m d D q e A2 c2 B2 d2 D2 e2 w h h2 => same_self l A n c B m d D q e A2 c2 B2 d2 D2 e2 w h h2)
  unfold beginE at CBR
  have hcode := beginL_code wins o
  generalize beginL wins o = bl at *
  obtain ⟨bl, code⟩ := bl
  obtain ⟨tt, htt⟩ : ∃ x, (if l.okB then l.total else 0) = x := ⟨_, rfl⟩
  obtain ⟨te, hte⟩ : ∃ x, (if l.okB then (0 : Int) else 1) = x := ⟨_, rfl⟩
  obtain ⟨ms, hms⟩ : ∃ x, l.missP win = x := ⟨_, rfl⟩
  obtain ⟨ma, mb, me⟩ := ms
  rw [htt, hte] at CT
  rw [hte] at CK
  rw [hms] at CM
  have Htt := Lib.hid htt
  have Hte := Lib.hid hte
  have Hms := Lib.hid hms
  clear hA hB hD hn hm hq hF hf htt hte hms
  simp only at hcode CB CBR CM
  unfold ledV at *
  go_enter Try.func12, Try.ntmps12
  go_upto_region 1 with fail
  change Blk (w.alloc (.cells #[.slice A n c, .slice B m d, .int .i64 l.office, .int .i64 l.bank, .int .i64 l.begun, .int .i64 l.inn, .int .i64 l.out, .slice D q e] 75)) _ _ _ at hX0
  generalize w.alloc (.cells #[.slice A n c, .slice B m d, .int .i64 l.office, .int .i64 l.bank, .int .i64 l.begun, .int .i64 l.inn, .int .i64 l.out, .slice D q e] 75) = W0 at *
  have x0 : W0.cell? ⟨w.heap.size, 0, none⟩ = _ := hX0.cell (i := 0) rfl
  have x1 : W0.cell? ⟨w.heap.size, 1, none⟩ = _ := hX0.cell (i := 1) rfl
  have x2 : W0.cell? ⟨w.heap.size, 2, none⟩ = _ := hX0.cell (i := 2) rfl
  have x3 : W0.cell? ⟨w.heap.size, 3, none⟩ = _ := hX0.cell (i := 3) rfl
  have x4 : W0.cell? ⟨w.heap.size, 4, none⟩ = _ := hX0.cell (i := 4) rfl
  have x5 : W0.cell? ⟨w.heap.size, 5, none⟩ = _ := hX0.cell (i := 5) rfl
  have x6 : W0.cell? ⟨w.heap.size, 6, none⟩ = _ := hX0.cell (i := 6) rfl
  have x7 : W0.cell? ⟨w.heap.size, 7, none⟩ = _ := hX0.cell (i := 7) rfl
  go_wp2_with fail
  refine (CS.out _).mono ?_; rintro r W1 ⟨rfl, hb1⟩
  have hbw1 := ext_trans hbw0 hb1
  have hX1 := hX0.ext hb1
  clear hbw0 hb1 hX0 x0 x1 x2 x3 x4 x5 x6 x7 CS
  obtain ⟨sm, hsm⟩ : ∃ b, (decide (n ≤ 15) && (decide (m ≤ 105) && decide (q ≤ 105))) = b := ⟨_, rfl⟩
  rw [hsm]
  have Hsm := Lib.hid hsm
  clear hsm
  cases sm
  · go_wp2_with fail
    refine (awake_any _).mono ?_; rintro r wz ⟨rfl, hbz⟩
    go_wp2
    go_ret
    exact ⟨rfl, ext_trans hbw1 hbz⟩
  have hsz : n ≤ 15 ∧ m ≤ 105 ∧ q ≤ 105 := by have := Hsm.out; simpa using this
  obtain ⟨hn15, hm105, hq105⟩ := hsz
  by_cases h15 : 15 < f
  · have h15' : (15 : Int) < (f : Int) := by omega
    go_wp2_with fail
    refine (awake_any _).mono ?_; rintro r wz ⟨rfl, hbz⟩
    go_wp2
    go_ret
    exact ⟨rfl, ext_trans hbw1 hbz⟩
  have h15' : ¬ (15 : Int) < (f : Int) := by omega
  go_upto_region 3 with fail
  go_wp2_with fail
  refine (list_any F f g wins _ Hf.out (by omega) (HF.out _ hbw1)).mono ?_; rintro r W2 ⟨v2, rfl, ⟨P, p, rfl, -, -, hf2, -⟩, hb2⟩
  rw [Hf.out]
  have hbw2 := ext_trans hbw1 hb2
  have hX2 := hX1.ext hb2
  clear hbw1 hb2 hX1
  go_wp2_with fail
  refine (CB.out _ _ _ (by omega) hf2).mono ?_; rintro r W3 ⟨v3, rfl, ⟨A3, n3, c3, B3, m3, d3, D3, q3, e3, rfl, hM3⟩, hb3⟩
  unfold ledV at *
  have hbw3 := ext_trans hbw2 hb3
  have hX3 := hX2.ext hb3
  have hy0 := ext_alloc W3 (.cells #[.slice A3 n3 c3, .slice B3 m3 d3, .int .i64 bl.office, .int .i64 bl.bank, .int .i64 bl.begun, .int .i64 bl.inn, .int .i64 bl.out, .slice D3 q3 e3] 81)
  have hY0 := Blk.new W3 81 [.slice A3 n3 c3, .slice B3 m3 d3, .int .i64 bl.office, .int .i64 bl.bank, .int .i64 bl.begun, .int .i64 bl.inn, .int .i64 bl.out, .slice D3 q3 e3]
  have hM3a := hM3.ext hy0
  have hX3a := hX3.ext hy0
  have hbw3a := ext_trans hbw3 hy0
  clear hbw2 hb3 hX2 CB hf2 hX3 hM3 hbw3
  go_upto_region 4 with fail
  change Blk (W3.alloc (.cells #[.slice A3 n3 c3, .slice B3 m3 d3, .int .i64 bl.office, .int .i64 bl.bank, .int .i64 bl.begun, .int .i64 bl.inn, .int .i64 bl.out, .slice D3 q3 e3] 81)) _ _ _ at hY0
  clear hy0
  generalize W3.heap.size = Y at *
  generalize W3.alloc (.cells #[.slice A3 n3 c3, .slice B3 m3 d3, .int .i64 bl.office, .int .i64 bl.bank, .int .i64 bl.begun, .int .i64 bl.inn, .int .i64 bl.out, .slice D3 q3 e3] 81) = W4 at *
  go_wp2_with fail
  refine (CBR.out _ (by omega) (HF.out _ hbw3a)).mono ?_; rintro r W5 ⟨v5, rfl, ⟨A5, n5, c5, B5, m5, d5, D5, q5, e5, rfl, hM5⟩, hb5⟩
  unfold ledV at *
  have hbw5 := ext_trans hbw3a hb5
  have hX5 := hX3a.ext hb5
  have hY5 := hY0.ext hb5
  have hM35 := hM3a.ext hb5
  have hz0 := ext_alloc W5 (.cells #[.slice A5 n5 c5, .slice B5 m5 d5, .int .i64 bl.office, .int .i64 bl.bank, .int .i64 bl.begun, .int .i64 bl.inn, .int .i64 bl.out, .slice D5 q5 e5] 75)
  have hZ0 := Blk.new W5 75 [.slice A5 n5 c5, .slice B5 m5 d5, .int .i64 bl.office, .int .i64 bl.bank, .int .i64 bl.begun, .int .i64 bl.inn, .int .i64 bl.out, .slice D5 q5 e5]
  have hM5a := hM5.ext hz0
  have hM35a := hM35.ext hz0
  have hX5a := hX5.ext hz0
  have hY5a := hY5.ext hz0
  have hbw5a := ext_trans hbw5 hz0
  clear hbw3a hb5 hX3a hY0 hM3a CBR hX5 hY5 hM35 hbw5 hM5 HF W4
  go_upto_region 5 with fail
  change Blk (W5.alloc (.cells #[.slice A5 n5 c5, .slice B5 m5 d5, .int .i64 bl.office, .int .i64 bl.bank, .int .i64 bl.begun, .int .i64 bl.inn, .int .i64 bl.out, .slice D5 q5 e5] 75)) _ _ _ at hZ0
  clear hz0
  generalize W5.heap.size = Z at *
  generalize W5.alloc (.cells #[.slice A5 n5 c5, .slice B5 m5 d5, .int .i64 bl.office, .int .i64 bl.bank, .int .i64 bl.begun, .int .i64 bl.inn, .int .i64 bl.out, .slice D5 q5 e5] 75) = W6 at *
  clear W5
  obtain rfl : n3 = n5 := hM35a.hn.symm.trans hM5a.hn
  obtain rfl : m3 = m5 := hM35a.hm.symm.trans hM5a.hm
  obtain rfl : q3 = q5 := hM35a.hq.symm.trans hM5a.hq
  go_cut [61] (fun z W => z = .bool false ∧ Below W6.heap.size W6 W)
  case first =>
    have y0 : W6.cell? ⟨Y, 0, none⟩ = _ := hY5a.cell (i := 0) rfl
    have y1 : W6.cell? ⟨Y, 1, none⟩ = _ := hY5a.cell (i := 1) rfl
    have y2 : W6.cell? ⟨Y, 2, none⟩ = _ := hY5a.cell (i := 2) rfl
    have y3 : W6.cell? ⟨Y, 3, none⟩ = _ := hY5a.cell (i := 3) rfl
    have y4 : W6.cell? ⟨Y, 4, none⟩ = _ := hY5a.cell (i := 4) rfl
    have y5 : W6.cell? ⟨Y, 5, none⟩ = _ := hY5a.cell (i := 5) rfl
    have y6 : W6.cell? ⟨Y, 6, none⟩ = _ := hY5a.cell (i := 6) rfl
    have y7 : W6.cell? ⟨Y, 7, none⟩ = _ := hY5a.cell (i := 7) rfl
    have z0 : W6.cell? ⟨Z, 0, none⟩ = _ := hZ0.cell (i := 0) rfl
    have z1 : W6.cell? ⟨Z, 1, none⟩ = _ := hZ0.cell (i := 1) rfl
    have z2 : W6.cell? ⟨Z, 2, none⟩ = _ := hZ0.cell (i := 2) rfl
    have z3 : W6.cell? ⟨Z, 3, none⟩ = _ := hZ0.cell (i := 3) rfl
    have z4 : W6.cell? ⟨Z, 4, none⟩ = _ := hZ0.cell (i := 4) rfl
    have z5 : W6.cell? ⟨Z, 5, none⟩ = _ := hZ0.cell (i := 5) rfl
    have z6 : W6.cell? ⟨Z, 6, none⟩ = _ := hZ0.cell (i := 6) rfl
    have z7 : W6.cell? ⟨Z, 7, none⟩ = _ := hZ0.cell (i := 7) rfl
    go_wp2_with fail
    refine (CSA.out _ _ _ _ _ _ _ _ _ _ _ _ _ _ _ _ _ hM35a hM5a).mono ?_; rintro r W7 ⟨rfl, hb7⟩
    clear hX5a hY5a hZ0 hM35a hM5a CSA y0 y1 y2 y3 y4 y5 y6 y7 z0 z1 z2 z3 z4 z5 z6 z7
    rcases hcode with rfl | rfl
    · go_wp2
      go_meet
      case rel => exact ⟨rfl, hb7⟩
    · go_wp2
      go_meet
      case rel => exact ⟨rfl, hb7⟩
  case rest =>
  obtain ⟨rfl, hb7⟩ := hcut
  generalize wc = W7 at *
  have hbw7 := ext_trans hbw5a hb7
  have hX7 := hX5a.ext hb7
  clear hbw5a hb7 hX5a hY5a hZ0 hM35a hM5a CSA hcode
  have x0 : W7.cell? ⟨w.heap.size, 0, none⟩ = _ := hX7.cell (i := 0) rfl
  have x1 : W7.cell? ⟨w.heap.size, 1, none⟩ = _ := hX7.cell (i := 1) rfl
  have x2 : W7.cell? ⟨w.heap.size, 2, none⟩ = _ := hX7.cell (i := 2) rfl
  have x3 : W7.cell? ⟨w.heap.size, 3, none⟩ = _ := hX7.cell (i := 3) rfl
  have x4 : W7.cell? ⟨w.heap.size, 4, none⟩ = _ := hX7.cell (i := 4) rfl
  have x5 : W7.cell? ⟨w.heap.size, 5, none⟩ = _ := hX7.cell (i := 5) rfl
  have x6 : W7.cell? ⟨w.heap.size, 6, none⟩ = _ := hX7.cell (i := 6) rfl
  have x7 : W7.cell? ⟨w.heap.size, 7, none⟩ = _ := hX7.cell (i := 7) rfl
  have hM := HM.out _ hbw7 (by omega) (by omega) (by omega)
  go_wp2_with fail
  refine (CL.out _ hM).mono ?_; rintro r U0 ⟨A9, c9, B9, d9, D9, e9, rfl, hL, hba⟩
  have hbA0 := ext_trans hbw7 hba
  have hXA0 := hX7.ext hba
  clear hba hM hbw7 hX7 x0 x1 x2 x3 x4 x5 x6 x7
  unfold ledV at *
  go_wp2_with fail
  refine (CT.out _ _ _ _ _ _ _ hL).mono ?_; rintro r V0 ⟨rfl, hbb⟩
  have hbB0 := ext_trans hbA0 hbb
  have hXB0 := hXA0.ext hbb
  clear hbb hL hbA0 hXA0
  go_upto_region 8 with fail
  have x0 : V0.cell? ⟨w.heap.size, 0, none⟩ = _ := hXB0.cell (i := 0) rfl
  have x1 : V0.cell? ⟨w.heap.size, 1, none⟩ = _ := hXB0.cell (i := 1) rfl
  have x2 : V0.cell? ⟨w.heap.size, 2, none⟩ = _ := hXB0.cell (i := 2) rfl
  have x3 : V0.cell? ⟨w.heap.size, 3, none⟩ = _ := hXB0.cell (i := 3) rfl
  have x4 : V0.cell? ⟨w.heap.size, 4, none⟩ = _ := hXB0.cell (i := 4) rfl
  have x5 : V0.cell? ⟨w.heap.size, 5, none⟩ = _ := hXB0.cell (i := 5) rfl
  have x6 : V0.cell? ⟨w.heap.size, 6, none⟩ = _ := hXB0.cell (i := 6) rfl
  have x7 : V0.cell? ⟨w.heap.size, 7, none⟩ = _ := hXB0.cell (i := 7) rfl
  have hM := HM.out _ hbB0 (by omega) (by omega) (by omega)
  go_wp2_with fail
  refine (CL.out _ hM).mono ?_; rintro r U1 ⟨A9, c9, B9, d9, D9, e9, rfl, hL, hba⟩
  have hbA1 := ext_trans hbB0 hba
  have hXA1 := hXB0.ext hba
  clear hba hM hbB0 hXB0 x0 x1 x2 x3 x4 x5 x6 x7
  unfold ledV at *
  go_wp2_with fail
  refine (CM.out _ _ _ _ _ _ _ hL).mono ?_; rintro r V1 ⟨rfl, hbb⟩
  have hbB1 := ext_trans hbA1 hbb
  have hXB1 := hXA1.ext hbb
  clear hbb hL hbA1 hXA1
  go_upto_region 9 with fail
  have x0 : V1.cell? ⟨w.heap.size, 0, none⟩ = _ := hXB1.cell (i := 0) rfl
  have x1 : V1.cell? ⟨w.heap.size, 1, none⟩ = _ := hXB1.cell (i := 1) rfl
  have x2 : V1.cell? ⟨w.heap.size, 2, none⟩ = _ := hXB1.cell (i := 2) rfl
  have x3 : V1.cell? ⟨w.heap.size, 3, none⟩ = _ := hXB1.cell (i := 3) rfl
  have x4 : V1.cell? ⟨w.heap.size, 4, none⟩ = _ := hXB1.cell (i := 4) rfl
  have x5 : V1.cell? ⟨w.heap.size, 5, none⟩ = _ := hXB1.cell (i := 5) rfl
  have x6 : V1.cell? ⟨w.heap.size, 6, none⟩ = _ := hXB1.cell (i := 6) rfl
  have x7 : V1.cell? ⟨w.heap.size, 7, none⟩ = _ := hXB1.cell (i := 7) rfl
  have hM := HM.out _ hbB1 (by omega) (by omega) (by omega)
  go_wp2_with fail
  refine (CL.out _ hM).mono ?_; rintro r U2 ⟨A9, c9, B9, d9, D9, e9, rfl, hL, hba⟩
  have hbA2 := ext_trans hbB1 hba
  have hXA2 := hXB1.ext hba
  clear hba hM hbB1 hXB1 x0 x1 x2 x3 x4 x5 x6 x7
  unfold ledV at *
  go_wp2_with fail
  refine (CK.out _ _ _ _ _ _ _ hL).mono ?_; rintro r V2 ⟨rfl, hbb⟩
  have hbB2 := ext_trans hbA2 hbb
  have hXB2 := hXA2.ext hbb
  clear hbb hL hbA2 hXA2
  go_upto_region 10 with fail
  clear CT CM CK CL
  have x0 : V2.cell? ⟨w.heap.size, 0, none⟩ = _ := hXB2.cell (i := 0) rfl
  have x1 : V2.cell? ⟨w.heap.size, 1, none⟩ = _ := hXB2.cell (i := 1) rfl
  have x2 : V2.cell? ⟨w.heap.size, 2, none⟩ = _ := hXB2.cell (i := 2) rfl
  have x3 : V2.cell? ⟨w.heap.size, 3, none⟩ = _ := hXB2.cell (i := 3) rfl
  have x4 : V2.cell? ⟨w.heap.size, 4, none⟩ = _ := hXB2.cell (i := 4) rfl
  have x5 : V2.cell? ⟨w.heap.size, 5, none⟩ = _ := hXB2.cell (i := 5) rfl
  have x6 : V2.cell? ⟨w.heap.size, 6, none⟩ = _ := hXB2.cell (i := 6) rfl
  have x7 : V2.cell? ⟨w.heap.size, 7, none⟩ = _ := hXB2.cell (i := 7) rfl
  have hM := HM.out _ hbB2 (by omega) (by omega) (by omega)
  go_wp2_with fail
  refine (CR.out _ hM).mono ?_; rintro r V3 ⟨rfl, hb3⟩
  have hbw3 := ext_trans hbB2 hb3
  have hX3 := hXB2.ext hb3
  clear hb3 hM hbB2 hXB2 x0 x1 x2 x3 x4 x5 x6 x7 CR
  cases hok : l.okB
  · obtain rfl : tt = 0 := by have := Htt.out; rw [hok] at this; simpa using this.symm
    obtain rfl : te = 1 := by have := Hte.out; rw [hok] at this; simpa using this.symm
    obtain ⟨rfl, rfl, rfl⟩ : ma = 0 ∧ mb = 0 ∧ me = 1 := by have := Hms.out; unfold Led.missP at this; rw [hok] at this; simpa [eq_comm] using this
    go_wp2_with fail
    refine (awake_any _).mono ?_; rintro r wz ⟨rfl, hbz⟩
    go_wp2
    go_ret
    exact ⟨rfl, ext_trans hbw3 hbz⟩
  obtain rfl : tt = l.total := by have := Htt.out; rw [hok] at this; simpa using this.symm
  obtain rfl : te = 0 := by have := Hte.out; rw [hok] at this; simpa using this.symm
  have hmon := (ok_mon hok).1
  have CTR1 := Lib.hid (fun W h => CTR.out W h hmon)
  clear CTR hmon Htt Hte
  have hmp := Hms.out
  unfold Led.missP at hmp
  rw [hok, Hn.out] at hmp
  simp only [if_true] at hmp
  have Hmp := Lib.hid hmp
  clear hmp Hms
  generalize l.total = T at *
  have x0 : V3.cell? ⟨w.heap.size, 0, none⟩ = _ := hX3.cell (i := 0) rfl
  have x1 : V3.cell? ⟨w.heap.size, 1, none⟩ = _ := hX3.cell (i := 1) rfl
  have x2 : V3.cell? ⟨w.heap.size, 2, none⟩ = _ := hX3.cell (i := 2) rfl
  have x3 : V3.cell? ⟨w.heap.size, 3, none⟩ = _ := hX3.cell (i := 3) rfl
  have x4 : V3.cell? ⟨w.heap.size, 4, none⟩ = _ := hX3.cell (i := 4) rfl
  have x5 : V3.cell? ⟨w.heap.size, 5, none⟩ = _ := hX3.cell (i := 5) rfl
  have x6 : V3.cell? ⟨w.heap.size, 6, none⟩ = _ := hX3.cell (i := 6) rfl
  have x7 : V3.cell? ⟨w.heap.size, 7, none⟩ = _ := hX3.cell (i := 7) rfl
  have hM := HM.out _ hbw3 (by omega) (by omega) (by omega)
  go_wp2_with fail
  refine (CTR1.out _ hM).mono ?_; rintro r V4 ⟨rfl, hb4⟩
  have hbw4 := ext_trans hbw3 hb4
  have hX4 := hX3.ext hb4
  clear hb4 hM hbw3 hX3 x0 x1 x2 x3 x4 x5 x6 x7 CTR1
  have x0 : V4.cell? ⟨w.heap.size, 0, none⟩ = _ := hX4.cell (i := 0) rfl
  go_upto_region 14 with fail
  go_wp2_with fail
  refine (In_any _ _ _ _).mono ?_; rintro r w9 ⟨rfl, rfl⟩
  clear x0
  by_cases hin : 0 ≤ win ∧ win ≤ (n : Int) - 1
  · have hmp := Hmp.out
    rw [if_pos hin] at hmp
    rw [decide_eq_true hin]
    obtain ⟨rfl, rfl, rfl⟩ : ma = (l.missing win).1 ∧ mb = (l.missing win).2 ∧ me = 0 := by simpa [eq_comm] using hmp
    have CMR1 := Lib.hid (fun W h => CMR.out W h hok)
    clear CMR Hmp hmp hin
    generalize (l.missing win).1 = ma at *
    generalize (l.missing win).2 = mb at *
    have hM := HM.out _ hbw4 (by omega) (by omega) (by omega)
    go_upto_region 16 with fail
    have x0 : V4.cell? ⟨w.heap.size, 0, none⟩ = _ := hX4.cell (i := 0) rfl
    have x1 : V4.cell? ⟨w.heap.size, 1, none⟩ = _ := hX4.cell (i := 1) rfl
    have x2 : V4.cell? ⟨w.heap.size, 2, none⟩ = _ := hX4.cell (i := 2) rfl
    have x3 : V4.cell? ⟨w.heap.size, 3, none⟩ = _ := hX4.cell (i := 3) rfl
    have x4 : V4.cell? ⟨w.heap.size, 4, none⟩ = _ := hX4.cell (i := 4) rfl
    have x5 : V4.cell? ⟨w.heap.size, 5, none⟩ = _ := hX4.cell (i := 5) rfl
    have x6 : V4.cell? ⟨w.heap.size, 6, none⟩ = _ := hX4.cell (i := 6) rfl
    have x7 : V4.cell? ⟨w.heap.size, 7, none⟩ = _ := hX4.cell (i := 7) rfl
    go_wp2_with fail
    refine (CMR1.out _ hM).mono ?_; rintro r V5 ⟨rfl, hb5⟩
    clear x0 x1 x2 x3 x4 x5 x6 x7
    go_wp2_with fail
    refine (awake_any _).mono ?_; rintro r wz ⟨rfl, hbz⟩
    go_wp2
    go_ret
    exact ⟨rfl, ext_trans (ext_trans hbw4 hb5) hbz⟩
  · have hmp := Hmp.out
    rw [if_neg hin] at hmp
    rw [decide_eq_false hin]
    obtain ⟨rfl, rfl, rfl⟩ : ma = 0 ∧ mb = 0 ∧ me = 2 := by simpa [eq_comm] using hmp
    clear hin hmp
    go_wp2_with fail
    refine (awake_any _).mono ?_; rintro r wz ⟨rfl, hbz⟩
    go_wp2
    go_ret
    exact ⟨rfl, ext_trans hbw4 hbz⟩
end Go.Proofs.Ytnjdlhhgnamigaa

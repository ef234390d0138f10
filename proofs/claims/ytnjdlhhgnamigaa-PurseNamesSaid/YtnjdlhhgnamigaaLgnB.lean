/- Walk: what is missing of a window's bags. -/
import Derived.Test.YtnjdlhhgnamigaaLgnA
namespace Go.Pu
def Led.missP (l : Led) (w : Int) : Int × Int × Int := if l.okB then (if 0 ≤ w ∧ w ≤ (l.windows.length : Int) - 1 then ((l.missing w).1, (l.missing w).2, 0) else (0, 0, 2)) else (0, 0, 1)
end Go.Pu
namespace Go.Proofs.Ytnjdlhhgnamigaa
open Go.RowKit Go.Bs Go.Pu Go.Pl Go.Sort

set_option maxRecDepth 100000 in
set_option maxHeartbeats 2000000 in
theorem Missing_any (l : Led) (A : Option Addr) (n c : Nat) (B : Option Addr) (m d : Nat) (D : Option Addr) (q e : Nat) (window : Int) (w : World) (hL : LedM w l A n B m D q) :
    Calls Try.prog 48 #[ledV A n c B m d l.office l.bank l.begun l.inn l.out D q e, .int .i64 window] w fun r w' => r = .returned (.tuple #[.int .i64 (l.missP window).1, .int .i64 (l.missP window).2.1, .int .i64 (l.missP window).2.2]) ∧ Below w.heap.size w w' := by
  have CV := Lib.hid (fun W h => lvalid_any l A n c B m d D q e W h)
  have hb0 := ext_alloc w (.cells #[.slice A n c, .slice B m d, .int .i64 l.office, .int .i64 l.bank, .int .i64 l.begun, .int .i64 l.inn, .int .i64 l.out, .slice D q e] 81)
  have hX := Blk.new w 81 [.slice A n c, .slice B m d, .int .i64 l.office, .int .i64 l.bank, .int .i64 l.begun, .int .i64 l.inn, .int .i64 l.out, .slice D q e]
  unfold ledV at *
  have hL0 := hL.ext hb0
  have hmp : l.missP window = if l.okB then (if 0 ≤ window ∧ window ≤ (n : Int) - 1 then ((l.missing window).1, (l.missing window).2, 0) else (0, 0, 2)) else (0, 0, 1) := by unfold Led.missP; rw [hL.hn]
  have CI := Lib.hid (fun W => within_any window 0 ((n : Int) - 1) W)
  generalize l.missP window = mp at *
  obtain ⟨r1, r2, r3⟩ := mp
  have Hmp := Lib.hid hmp
  clear hmp hL
  generalize hok : l.okB = b at *
  have Hok := Lib.hid hok
  clear hok
  have hn9 := hL0.n9
  go_enter Try.func48, Try.ntmps48
  go_upto_region 1 with fail
  change Blk (w.alloc (.cells #[.slice A n c, .slice B m d, .int .i64 l.office, .int .i64 l.bank, .int .i64 l.begun, .int .i64 l.inn, .int .i64 l.out, .slice D q e] 81)) _ _ _ at hX
  generalize w.alloc (.cells #[.slice A n c, .slice B m d, .int .i64 l.office, .int .i64 l.bank, .int .i64 l.begun, .int .i64 l.inn, .int .i64 l.out, .slice D q e] 81) = W0 at *
  have x0 : W0.cell? ⟨w.heap.size, 0, none⟩ = _ := hX.cell (i := 0) rfl
  have x1 : W0.cell? ⟨w.heap.size, 1, none⟩ = _ := hX.cell (i := 1) rfl
  have x2 : W0.cell? ⟨w.heap.size, 2, none⟩ = _ := hX.cell (i := 2) rfl
  have x3 : W0.cell? ⟨w.heap.size, 3, none⟩ = _ := hX.cell (i := 3) rfl
  have x4 : W0.cell? ⟨w.heap.size, 4, none⟩ = _ := hX.cell (i := 4) rfl
  have x5 : W0.cell? ⟨w.heap.size, 5, none⟩ = _ := hX.cell (i := 5) rfl
  have x6 : W0.cell? ⟨w.heap.size, 6, none⟩ = _ := hX.cell (i := 6) rfl
  have x7 : W0.cell? ⟨w.heap.size, 7, none⟩ = _ := hX.cell (i := 7) rfl
  go_wp2_with fail
  refine (CV.out _ hL0).mono ?_; rintro r w1 ⟨rfl, hb1⟩
  have hX1 := hX.ext hb1
  have hL1 := hL0.ext hb1
  have hbw1 := ext_trans hb0 hb1
  clear x0 x1 x2 x3 x4 x5 x6 x7 hX hL0 hb0 hb1 CV
  cases b
  · have hr := Hmp.out
    simp only [Bool.false_eq_true, if_false, Prod.mk.injEq] at hr
    obtain ⟨rfl, rfl, rfl⟩ := hr
    go_wp2
    refine bodyPost_ret (v := .tuple #[.int .i64 0, .int .i64 0, .int .i64 1]) (by simp [results, Try.results48, go_sem]) rfl ?_
    exact ⟨rfl, hbw1⟩
  have hok := Hok.out
  have x0 : w1.cell? ⟨w.heap.size, 0, none⟩ = _ := hX1.cell (i := 0) rfl
  go_wp2_with fail
  refine (CI.out _).mono ?_; rintro r w2 ⟨rfl, rfl⟩
  clear x0 CI
  by_cases hin : 0 ≤ window ∧ window ≤ (n : Int) - 1
  rotate_left
  · have hr := Hmp.out
    simp only [if_true, if_neg hin, Prod.mk.injEq] at hr
    obtain ⟨rfl, rfl, rfl⟩ := hr
    rw [decide_eq_false hin]
    clear hin
    go_wp2
    refine bodyPost_ret (v := .tuple #[.int .i64 0, .int .i64 0, .int .i64 2]) (by simp [results, Try.results48, go_sem]) rfl ?_
    exact ⟨rfl, hbw1⟩
  rw [decide_eq_true hin]
  have hr := Hmp.out
  simp only [if_true, if_pos hin, Prod.mk.injEq] at hr
  obtain ⟨h1, h2, rfl⟩ := hr
  have Hr1 := Lib.hid h1
  have Hr2 := Lib.hid h2
  have Hbd := Lib.hid (fun k hk => Led.misK_bd hok window k hk)
  have Hd := Lib.hid (ok_dif hok)
  have hq9 := hL1.q9
  have Hm := Lib.hid hL1.hm
  have Hq := Lib.hid hL1.hq
  have hB1 := hL1.b
  have hD1 := hL1.d
  have Hall := Lib.hid (l.misK_all window)
  rw [hL1.hq] at Hall
  clear hL1 hok h1 h2 Hmp Hok hin
  have x7 : w1.cell? ⟨w.heap.size, 7, none⟩ = _ := hX1.cell (i := 7) rfl
  go_wp2
  clear x7
  go_loopw [4, 5, 8, 24] (fun s u _ x wr => ∃ k : Nat, x = .int .i64 k ∧ s = .int .i64 (l.misK window k).1 ∧ u = .int .i64 (l.misK window k).2 ∧ k ≤ q ∧ Below w1.heap.size w1 wr) (fun _ _ _ x _ => q - (intOf x).toNat)
  case atStart => exact ⟨0, rfl, by simp [Led.misK, isum], by simp [Led.misK], by omega, Below.refl _ _⟩
  case round =>
    obtain ⟨k, rfl, rfl, rfl, hk, hb⟩ := hrel
    by_cases hlt : k < q
    · have hlt' : (k : Int) < q := by omega
      have hk1 : k < l.diffs.length := by rw [Hq.out]; exact hlt
      have hd := Hd.out l.diffs[k] (List.getElem_mem _)
      rw [Hm.out] at hd
      have hbd := Hbd.out k (by omega)
      have Hhit := Lib.hid (fun h => l.misK_hit window hk1 h)
      have Hmis := Lib.hid (fun h => l.misK_miss window hk1 h)
      obtain ⟨o1, p1, rfl, -, c0, c1, c2⟩ := (hD1.ext hb).at3 hk1 rfl
      have hmb : l.misB window l.diffs[k] = ((l.bags.getD (l.diffs[k]).bag.toNat default).window == window) := rfl
      generalize l.diffs[k] = x at *
      obtain ⟨db, dl, dk⟩ := x
      simp only at c0 c1 c2 hd hmb
      obtain ⟨bi, rfl⟩ : ∃ bi : Nat, db = bi := ⟨db.toNat, by omega⟩
      have hbi : bi < m := by omega
      have hbi' : (bi : Int) < m := by omega
      have hbl : bi < l.bags.length := by rw [Hm.out]; exact hbi
      have hwin : (l.bags.getD ((bi : Int)).toNat default).window = (l.bags[bi]).window := by simp [hbl]
      rw [hwin] at hmb
      go_upto_region 8 with fail
      have hU := Blk.new wr 103 [.int .i64 bi, .int .i64 dl, .bool dk]
      have hal := ext_alloc wr (.cells #[.int .i64 bi, .int .i64 dl, .bool dk] 103)
      have hb2 := ext_trans hb hal
      change Blk (wr.alloc (.cells #[.int .i64 bi, .int .i64 dl, .bool dk] 103)) _ _ _ at hU
      generalize wr.alloc (.cells #[.int .i64 bi, .int .i64 dl, .bool dk] 103) = V at *
      generalize wr.heap.size = U at *
      clear c0 c1 c2 hb hal
      obtain ⟨o2, p2, rfl, -, e0, -, -, -, -, -⟩ := (hB1.ext hb2).at6 hbl rfl
      generalize (l.bags[bi]).window = bw at *
      have Hmb := Lib.hid hmb
      clear hmb hwin hk1 hbl
      have u0 : V.cell? ⟨U, 0, none⟩ = _ := hU.cell (i := 0) rfl
      have u1 : V.cell? ⟨U, 1, none⟩ = _ := hU.cell (i := 1) rfl
      have x1 : V.cell? ⟨w.heap.size, 1, none⟩ = _ := (hX1.ext hb2).cell (i := 1) rfl
      generalize hs1 : l.misK window k = mk at *
      have Hs1 := Lib.hid hs1
      clear hs1
      by_cases hw : bw = window
      · have e1 : (bw == window) = true := by simpa using hw
        have Hn := Lib.hid (Hhit.out (by rw [Hmb.out]; exact e1))
        clear hw
        go_wp2
        go_roundw
        case rel => exact ⟨k + 1, by go_num, by rw [Hn.out], by rw [Hn.out], by omega, hb2⟩
        case measure => simp [intOf]; omega
      · have e1 : (bw == window) = false := by simpa using hw
        have Hn := Lib.hid (Hmis.out (by rw [Hmb.out]; exact e1))
        clear hw
        go_wp2
        go_roundw
        case rel => exact ⟨k + 1, by go_num, by rw [Hn.out], by rw [Hn.out], by omega, hb2⟩
        case measure => simp [intOf]; omega
    · obtain rfl : k = q := by omega
      rw [Hall.out]
      obtain rfl : r1 = (l.missing window).1 := Hr1.out
      obtain rfl : r2 = (l.missing window).2 := Hr2.out
      go_wp2
      refine bodyPost_ret (v := .tuple #[.int .i64 (l.missing window).1, .int .i64 (l.missing window).2, .int .i64 0]) (by simp [results, Try.results48, go_sem]) rfl ?_
      exact ⟨rfl, ext_trans hbw1 hb⟩
end Go.Proofs.Ytnjdlhhgnamigaa

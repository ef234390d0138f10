/- The law YardBuys, walked. -/
import Derived.Deep.DeepCutAuto
import Derived.Test.YtopfhinnamhoiaaBetA
import Derived.Test.YtopfhinnamhoiaaBuyH
namespace Go.Proofs.Ytopfhinnamhoiaa
open Go.RowKit Go.Bs Go.Yd Go.Pl Go.Sort

set_option maxRecDepth 100000 in
set_option maxHeartbeats 4000000 in
theorem buys_law (r : Rd) (A : Option Addr) (n cap : Nat) (P : Option Addr) (m cm : Nat) (lp : List Int) (w : World) (hn : r.days.length = n) (hn9 : n ≤ 9223372036854775807) (hm : lp.length = m) (hm9 : m ≤ 9223372036854775807) (hd : RdAt w A r) (hp : Cells w P 1 encI lp) :
    Calls Try.prog 11 #[.agg #[.slice A n cap, .int .i64 r.keep], .slice P m cm] w fun e w' => e = .returned (.bool true) ∧ Below w.heap.size w w' := by
  have hb0 := ext_alloc w (.cells #[.slice A n cap, .int .i64 r.keep] 87)
  have hB := Blk.new w 87 [.slice A n cap, .int .i64 r.keep]
  have Hn := Lib.hid hn
  have hL := light_any r A n cap (w.alloc (.cells #[.slice A n cap, .int .i64 r.keep] 87)) hn hn9
  by_cases hl : lightB r = true ∧ m ≤ 40
  · obtain ⟨hl1, hm40⟩ := hl
    have h2' : ¬ (40 : Int) < (m : Int) := by omega
    rw [hl1] at hL
    have hn32 : n ≤ 32 := by
      unfold lightB at hl1
      rw [hn] at hl1
      simp at hl1
      omega
    have HL := Lib.hid hL
    clear hL hl1 hn
    have HRd := Lib.hid (fun W (h : RdAt W A r) => RightRoad_any r A n cap W Hn.out hn9 h)
    have HRoad := Lib.hid (fun W (h : RdAt W A r) => Road_any r A n cap W Hn.out (by omega) h)
    generalize hokv : r.okB = okv at *
    have Hok := Lib.hid hokv
    clear hokv
    go_enter Try.func11, Try.ntmps11
    go_wp2_with fail
    change Blk (w.alloc (.cells #[.slice A n cap, .int .i64 r.keep] 87)) w.heap.size 87 [.slice A n cap, .int .i64 r.keep] at hB
    refine HL.out.mono ?_; rintro e w1 ⟨rfl, hb1⟩
    have hb2 := ext_trans hb0 hb1
    have hB2 := hB.ext hb1
    have x0 : w1.cell? ⟨w.heap.size, 0, none⟩ = _ := hB2.cell rfl
    have x1 : w1.cell? ⟨w.heap.size, 1, none⟩ = _ := hB2.cell rfl
    clear hb0 hb1 hB HL
    go_wp2_with fail
    refine (HRoad.out w1 (hd.ext hb2)).mono ?_; rintro e w2 ⟨v2, rfl, hv2, hb3⟩
    obtain ⟨A2, c2, rfl, hc2, -, hC2, -⟩ := hv2
    rw [Hn.out] at hc2 ⊢
    have hb4 := ext_trans hb2 hb3
    have hB4 := hB2.ext hb3
    clear hb2 hb3 hB2 x0 x1
    go_wp2_with fail
    refine (list_any P m cm lp w2 hm (by omega) (hp.ext hb4)).mono ?_; rintro e w3 ⟨v3, rfl, hv3, hb5⟩
    obtain ⟨A3, c3, rfl, hc3, -, hC3, -⟩ := hv3
    rw [hm] at hc3 ⊢
    have hb6 := ext_trans hb4 hb5
    have hB6 := hB4.ext hb5
    have hC4 := Cells.ext hC2 hb5
    clear hb4 hb5 hB4 hC2
    obtain ⟨sa, sb, hs⟩ : ∃ sa sb, spendR r lp = (sa, sb) := ⟨_, _, rfl⟩
    have HS := Lib.hid (Spend_any r A2 n c2 lp A3 m c3 w3 Hn.out hn9 hc2 hm hm40 hC4 hC3)
    rw [hs] at HS
    simp only at HS
    have Hs := Lib.hid hs
    clear hs
    go_wp2_with fail
    refine HS.out.mono ?_; rintro e w4 ⟨rfl, hb7⟩
    have hb8 := ext_trans hb6 hb7
    have hB8 := hB6.ext hb7
    have x0 : w4.cell? ⟨w.heap.size, 0, none⟩ = _ := hB8.cell rfl
    have x1 : w4.cell? ⟨w.heap.size, 1, none⟩ = _ := hB8.cell rfl
    clear hb6 hb7 hB6 hC3 hC4 hc2 hc3 HS
    go_wp2_with fail
    refine (HRoad.out w4 (hd.ext hb8)).mono ?_; rintro e w5 ⟨v2, rfl, hv2, hb9⟩
    obtain ⟨A5, c5, rfl, hc5, -, hC5, -⟩ := hv2
    rw [Hn.out] at hc5 ⊢
    have hb10 := ext_trans hb8 hb9
    have hB10 := hB8.ext hb9
    clear hb8 hb9 hB8 x0 x1
    obtain ⟨pl, co, tb, er, hbr⟩ : ∃ pl co tb er, buyR r = (pl, co, tb, er) := ⟨_, _, _, _, rfl⟩
    have HB := Lib.hid (Buy_any r A5 n c5 w5 Hn.out hn9 hc5 hC5)
    rw [hbr] at HB
    have Hbr := Lib.hid hbr
    clear hbr
    go_wp2_with fail
    refine HB.out.mono ?_; rintro e w6 ⟨v, x, rfl, hv6, hx6, hb11⟩
    simp only at hv6 hx6 ⊢
    obtain ⟨Ab, cb, rfl, hcb, -, hCb, -⟩ := hv6
    obtain ⟨At, ct, rfl, hct, -, hCt, -⟩ := hx6
    obtain ⟨mp, hmp⟩ : ∃ mp, pl.length = mp := ⟨_, rfl⟩
    obtain ⟨mt, hmt⟩ : ∃ mt, tb.length = mt := ⟨_, rfl⟩
    rw [hmp] at hcb ⊢
    rw [hmt] at hct ⊢
    have Hmp := Lib.hid hmp
    have Hmt := Lib.hid hmt
    have hb12 := ext_trans hb10 hb11
    have hB12 := hB10.ext hb11
    have x0 : w6.cell? ⟨w.heap.size, 0, none⟩ = _ := hB12.cell rfl
    have x1 : w6.cell? ⟨w.heap.size, 1, none⟩ = _ := hB12.cell rfl
    clear hb10 hb11 hB10 hC5 hc5 HB hmp hmt hcb hct
    go_wp2_with fail
    refine (HRd.out w6 (hd.ext hb12)).mono ?_; rintro e w7 ⟨rfl, hb13⟩
    have hb14 := ext_trans hb12 hb13
    have hB14 := hB12.ext hb13
    have hCb2 := hCb.ext hb13
    have hCt2 := hCt.ext hb13
    clear hb12 hb13 hB12 hCb hCt x0 x1
    have x0 : w7.cell? ⟨w.heap.size, 0, none⟩ = _ := hB14.cell rfl
    have x1 : w7.cell? ⟨w.heap.size, 1, none⟩ = _ := hB14.cell rfl
    cases okv
    · have e1 := Hs.out
      rw [spendR_bad Hok.out] at e1
      have e2 := Hbr.out
      unfold buyR at e2
      rw [Hok.out] at e2
      simp only [Bool.false_eq_true, if_false, Prod.mk.injEq] at e1 e2
      obtain ⟨rfl, rfl⟩ := e1
      obtain ⟨rfl, rfl, rfl, rfl⟩ := e2
      obtain rfl : mp = 0 := by rw [← Hmp.out]; rfl
      obtain rfl : mt = 0 := by rw [← Hmt.out]; rfl
      have HC := Lib.hid (fun W A c (h : RdAt W A r) => CheckRoad_any r A n c W Hn.out hn9 h)
      rw [Hok.out] at HC
      go_wp2_with fail
      refine (HRoad.out w7 (hd.ext hb14)).mono ?_; rintro e w8 ⟨v2, rfl, hv8, hb15⟩
      obtain ⟨A8, c8, rfl, -, -, hC8, -⟩ := hv8
      rw [Hn.out]
      go_wp2_with fail
      refine (HC.out w8 A8 c8 hC8).mono ?_; rintro e w9 ⟨rfl, hb16⟩
      simp only [Bool.false_eq_true, if_false]
      go_wp2_with fail
      refine (wakes_any _).mono ?_; rintro e w10 ⟨rfl, hb17⟩
      go_wp2
      go_ret
      exact ⟨rfl, ext_trans (ext_trans (ext_trans hb14 hb15) hb16) hb17⟩
    · have hok := (Rd.okB_iff r).1 Hok.out
      have hlen := hok.1
      rw [Hn.out] at hlen
      have HC := Lib.hid (fun W A c (h : RdAt W A r) => CheckRoad_any r A n c W Hn.out hn9 h)
      rw [Hok.out] at HC
      go_wp2_with fail
      refine (HRoad.out w7 (hd.ext hb14)).mono ?_; rintro e w8 ⟨v2, rfl, hv8, hb15⟩
      obtain ⟨A8, c8, rfl, -, -, hC8, -⟩ := hv8
      rw [Hn.out]
      go_wp2_with fail
      refine (HC.out w8 A8 c8 hC8).mono ?_; rintro e w9 ⟨rfl, hb16⟩
      have hb18 := ext_trans (ext_trans hb14 hb15) hb16
      have hB18 := (hB14.ext hb15).ext hb16
      have hCb3 := (hCb2.ext hb15).ext hb16
      have hCt3 := (hCt2.ext hb15).ext hb16
      clear hb14 hb15 hb16 hB14 hC8 hCb2 hCt2 x0 x1
      have x0 : w9.cell? ⟨w.heap.size, 0, none⟩ = _ := hB18.cell rfl
      have x1 : w9.cell? ⟨w.heap.size, 1, none⟩ = _ := hB18.cell rfl
      simp only [if_true]
      obtain ⟨p, hpp⟩ : ∃ p : Bool, (p = true ↔ PlanOk r lp) := by classical exact ⟨decide (PlanOk r lp), by simp⟩
      have Hp := Lib.hid hpp
      clear hpp
      go_wp2_with fail
      refine (RPlan_any r hok A n cap lp P m cm w9 p Hp.out Hn.out hm hm40 (hd.ext hb18) (hp.ext hb18)).mono ?_; rintro e w10 ⟨rfl, hb19⟩
      have hb20 := ext_trans hb18 hb19
      have hB20 := hB18.ext hb19
      have hCb4 := hCb3.ext hb19
      have hCt4 := hCt3.ext hb19
      clear hb18 hb19 hB18 hCb3 hCt3 x0 x1
      go_upto_if 79 with fail
      go_cut [] (fun W => Below w.heap.size w W ∧ Blk W w.heap.size 87 [.slice A n cap, .int .i64 r.keep] ∧ Cells W Ab 1 encI pl ∧ Cells W At 1 encI tb)
      case first =>
        cases p
        · have e1 := Hs.out
          rw [spendR_no Hok.out (fun h => by have := Hp.out.2 h; cases this)] at e1
          simp only [Prod.mk.injEq] at e1
          obtain ⟨rfl, rfl⟩ := e1
          go_wp2
          go_meet
          case rel => exact ⟨hb20, hB20, hCb4, hCt4⟩
        · have hpo := Hp.out.1 rfl
          have e1 := Hs.out
          rw [spendR_ok Hok.out hpo] at e1
          simp only [Prod.mk.injEq] at e1
          obtain ⟨e1, rfl⟩ := e1
          rw [hm] at e1
          have x0 : w10.cell? ⟨w.heap.size, 0, none⟩ = _ := hB20.cell rfl
          have x1 : w10.cell? ⟨w.heap.size, 1, none⟩ = _ := hB20.cell rfl
          have HS := Lib.hid (RSpend_any r hok A n cap lp P m cm w10 hpo Hn.out hm hm40 (hd.ext hb20) (hp.ext hb20))
          rw [e1] at HS
          clear e1 hpo
          go_wp2_with fail
          refine HS.out.mono ?_; rintro e w11 ⟨rfl, hb21⟩
          go_wp2
          go_meet
          case rel => exact ⟨ext_trans hb20 hb21, hB20.ext hb21, hCb4.ext hb21, hCt4.ext hb21⟩
      case rest =>
        obtain ⟨hb21, hB21, hCb5, hCt5⟩ := hcut
        clear hb20 hB20 hCb4 hCt4 Hs
        have x0 : wc.cell? ⟨w.heap.size, 0, none⟩ = _ := hB21.cell rfl
        have x1 : wc.cell? ⟨w.heap.size, 1, none⟩ = _ := hB21.cell rfl
        have HRB := Lib.hid (RBuy_any r hok A n cap wc Hn.out (hd.ext hb21))
        rw [buy_ref hok] at HRB
        by_cases hM : r.tbl 0 < 1000000000
        · have e2 := Hbr.out
          rw [buyR_some Hok.out hM] at e2
          simp only [Prod.mk.injEq] at e2
          obtain ⟨rfl, rfl, rfl, rfl⟩ := e2
          rw [if_pos hM] at HRB
          have Hbo := Lib.hid (buy_ok hok hM)
          have Htr := Lib.hid (tab_right hok)
          have ht0 : tg (tab (r.days.length + 1) r.tbl) 0 = r.tbl 0 := tg_tab (by omega)
          have Ht0 := Lib.hid ht0
          clear hM ht0
          go_wp2_with fail
          refine HRB.out.mono ?_; rintro e w12 ⟨Aw, cw, rfl, hCw, hb22⟩
          simp only [Option.isSome_some, Option.getD_some] at hCw ⊢
          have hnl : r.planN.length = mp := by rw [← Hmp.out, natsI_len]
          rw [hnl]
          clear hnl HRB
          generalize natsI r.planN = pl at *
          have hb23 := ext_trans hb21 hb22
          have hB23 := hB21.ext hb22
          have hCb6 := hCb5.ext hb22
          have hCt6 := hCt5.ext hb22
          have hmpl : mp ≤ 30 := by have := Hbo.out.2.2; rw [Hmp.out, Hn.out] at this; omega
          have hmtl : mt = n + 1 := by rw [← Hmt.out, tab_len, Hn.out]
          have Hmtl := Lib.hid hmtl
          have hmt40 : mt ≤ 40 := by omega
          have hmt0 : (0 : Int) < (mt : Int) := by omega
          clear hb21 hb22 hB21 hCb5 hCt5 x0 x1 hmtl
          generalize tab (r.days.length + 1) r.tbl = tb at *
          obtain ⟨bt, ot, rfl, c0⟩ := tg_at hCt6 (i := 0) (by rw [Hmt.out]; omega)
          rw [Ht0.out] at c0
          have hE := ints_any Ab Aw mp mp cb cw pl pl w12 Hmp.out Hmp.out (by omega) (by omega) hCb6 hCw
          rw [decide_eq_true rfl] at hE
          have HE := Lib.hid hE
          have Hct := fun W (hb : Below w12.heap.size w12 W) => cell_ext c0 hb
          have HCt := Lib.hid Hct
          have hsp := Hbo.out.2.1
          rw [Hmp.out] at hsp
          have HSp := fun W (h1 : RdAt W A r) (h2 : Cells W Aw 1 encI pl) => RSpend_any r hok A n cap pl Aw mp cw W Hbo.out.1 Hn.out Hmp.out (by omega) h1 h2
          rw [hsp] at HSp
          have HSP := Lib.hid HSp
          clear hE Hct c0 HSp hsp Ht0
          generalize r.tbl 0 = t0 at *
          go_wp2_with fail
          refine HE.out.mono ?_; rintro e w13 ⟨rfl, hb24⟩
          have hb25 := ext_trans hb23 hb24
          have hB25 := hB23.ext hb24
          have x0 : w13.cell? ⟨w.heap.size, 0, none⟩ = _ := hB25.cell rfl
          have x1 : w13.cell? ⟨w.heap.size, 1, none⟩ = _ := hB25.cell rfl
          go_wp2_with fail
          refine (HSP.out w13 (hd.ext hb25) (hCw.ext hb24)).mono ?_; rintro e w14 ⟨rfl, hb26⟩
          have hb27 := ext_trans hb25 hb26
          have hB27 := hB25.ext hb26
          have y0 : w14.cell? ⟨w.heap.size, 0, none⟩ = _ := hB27.cell rfl
          have y1 : w14.cell? ⟨w.heap.size, 1, none⟩ = _ := hB27.cell rfl
          clear x0 x1
          go_wp2_with fail
          refine (RTable_any r hok A n cap tb (some ⟨bt, ot, none⟩) mt ct w14 true ⟨fun _ => Htr.out, fun _ => rfl⟩ Hn.out Hmt.out hmt40 (hd.ext hb27) (hCt6.ext (ext_trans hb24 hb26))).mono ?_; rintro e w15 ⟨rfl, hb28⟩
          have z0 : w15.cell? ⟨bt, ot, none⟩ = some (.int .i64 t0) := HCt.out w15 (ext_trans (ext_trans hb24 hb26) hb28)
          clear y0 y1
          go_wp2_with fail
          refine (wakes_any _).mono ?_; rintro e w16 ⟨rfl, hb29⟩
          go_wp2
          go_ret
          exact ⟨rfl, ext_trans (ext_trans hb27 hb28) hb29⟩
        · have e2 := Hbr.out
          rw [buyR_none Hok.out hM] at e2
          simp only [Prod.mk.injEq] at e2
          obtain ⟨rfl, rfl, rfl, rfl⟩ := e2
          obtain rfl : mp = 0 := by rw [← Hmp.out]; rfl
          obtain rfl : mt = 0 := by rw [← Hmt.out]; rfl
          rw [if_neg hM] at HRB
          clear hM
          go_wp2_with fail
          refine HRB.out.mono ?_; rintro e w12 ⟨Aw, cw, rfl, hCw, hb22⟩
          simp only [Option.isSome_none, Option.getD_none]
          go_wp2_with fail
          refine (wakes_any _).mono ?_; rintro e w16 ⟨rfl, hb29⟩
          go_wp2
          go_ret
          exact ⟨rfl, ext_trans (ext_trans hb21 hb22) hb29⟩
  · clear hd hp
    cases hl1 : lightB r
    · rw [hl1] at hL
      have HL := Lib.hid hL
      clear hL hl1 hl hn
      go_enter Try.func11, Try.ntmps11
      go_wp2_with fail
      refine HL.out.mono ?_; rintro e w1 ⟨rfl, hb1⟩
      go_wp2_with fail
      refine (wakes_any _).mono ?_; rintro e w2 ⟨rfl, hb2⟩
      go_wp2
      go_ret
      exact ⟨rfl, ext_trans (ext_trans hb0 hb1) hb2⟩
    · have h2' : (40 : Int) < (m : Int) := by
        have : ¬ m ≤ 40 := fun h => hl ⟨hl1, h⟩
        omega
      rw [hl1] at hL
      have HL := Lib.hid hL
      clear hL hl1 hl hn
      go_enter Try.func11, Try.ntmps11
      go_wp2_with fail
      refine HL.out.mono ?_; rintro e w1 ⟨rfl, hb1⟩
      go_wp2_with fail
      refine (wakes_any _).mono ?_; rintro e w2 ⟨rfl, hb2⟩
      go_wp2
      go_ret
      exact ⟨rfl, ext_trans (ext_trans hb0 hb1) hb2⟩
end Go.Proofs.Ytopfhinnamhoiaa

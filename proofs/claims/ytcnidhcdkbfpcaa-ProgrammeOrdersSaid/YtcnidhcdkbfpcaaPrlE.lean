/- The law ProgrammeOrders: its walk. -/
import Derived.Test.YtcnidhcdkbfpcaaPgK
import Derived.Test.YtcnidhcdkbfpcaaPgH
import Derived.Test.YtcnidhcdkbfpcaaPrlB
namespace Go.Proofs.Ytcnidhcdkbfpcaa
open Go.RowKit Go.Bs Go.Pg Go.Pl Go.Sort
set_option maxRecDepth 100000 in
set_option maxHeartbeats 10000000 in
theorem orders_law (s : Sh) (p : ShP) (A : Option Addr) (n c : Nat) (l : List Int) (w : World) (h : ShW w s p) (hn : l.length = n) (hm : n ≤ 9223372036854775807) (hd : Cells w A 1 encI l) :
    Calls Try.prog 7 #[shV s p, .slice A n c] w fun e w' => e = .returned (.bool true) ∧ Below w.heap.size w w' := by
  have hb0 := ext_alloc w (.cells (shC s p).toArray 26)
  have hS := Blk.new w 26 (shC s p)
  have h0 := h.ext hb0
  have hd0 := hd.ext hb0
  have Hn := Lib.hid hn
  clear hd hn
  clear h
  unfold shV at *
  unfold shC at *
  go_enter Try.func7, Try.ntmps7
  go_upto_region 1 with fail
  change Blk (w.alloc (.cells #[.slice p.A s.acts.length p.cA, .slice p.R s.rest.length p.cR, .slice p.I s.ins.length p.cI, .slice p.O s.outs.length p.cO, .int .i64 s.cover, .int .i64 s.dull, .slice p.B s.before.length p.cB] 26)) _ _ _ at hS
  generalize w.alloc (.cells #[.slice p.A s.acts.length p.cA, .slice p.R s.rest.length p.cR, .slice p.I s.ins.length p.cI, .slice p.O s.outs.length p.cO, .int .i64 s.cover, .int .i64 s.dull, .slice p.B s.before.length p.cB] 26) = W0 at *
  have x0 : W0.cell? ⟨w.heap.size, 0, none⟩ = _ := hS.cell (i := 0) rfl
  have x1 : W0.cell? ⟨w.heap.size, 1, none⟩ = _ := hS.cell (i := 1) rfl
  have x2 : W0.cell? ⟨w.heap.size, 2, none⟩ = _ := hS.cell (i := 2) rfl
  have x3 : W0.cell? ⟨w.heap.size, 3, none⟩ = _ := hS.cell (i := 3) rfl
  have x4 : W0.cell? ⟨w.heap.size, 4, none⟩ = _ := hS.cell (i := 4) rfl
  have x5 : W0.cell? ⟨w.heap.size, 5, none⟩ = _ := hS.cell (i := 5) rfl
  have x6 : W0.cell? ⟨w.heap.size, 6, none⟩ = _ := hS.cell (i := 6) rfl
  go_wp2_with fail
  refine (Few_any s p W0 h0).mono ?_; rintro e W1 ⟨rfl, hb1⟩
  cases hf : s.fewB
  · clear x0 x1 x2 x3 x4 x5 x6
    go_wp2_with fail
    refine (wakes_any _).mono ?_; rintro e wz ⟨rfl, hbz⟩
    go_wp2
    go_ret
    exact ⟨rfl, ext_trans (ext_trans hb0 hb1) hbz⟩
  by_cases hn12 : n ≤ 12
  rotate_left
  · have hg : (n : Int) > 12 := by omega
    clear x0 x1 x2 x3 x4 x5 x6
    go_wp2_with fail
    refine (wakes_any _).mono ?_; rintro e wz ⟨rfl, hbz⟩
    go_wp2
    go_ret
    exact ⟨rfl, ext_trans (ext_trans hb0 hb1) hbz⟩
  have hg : ¬ (n : Int) > 12 := by omega
  have Hm := Lib.hid ((h0.few hf).ext hb1)
  have HS := Lib.hid (hS.ext hb1)
  have hbw := ext_trans hb0 hb1
  have Hd := Lib.hid (hd0.ext hb1)
  clear hb0 hb1 h0 hS hf hd0 x0 x1 x2 x3 x4 x5 x6
  go_upto_region 3 with fail
  clear hg
  have x0_ : W1.cell? ⟨w.heap.size, 0, none⟩ = _ := HS.out.cell (i := 0) rfl
  have x1_ : W1.cell? ⟨w.heap.size, 1, none⟩ = _ := HS.out.cell (i := 1) rfl
  have x2_ : W1.cell? ⟨w.heap.size, 2, none⟩ = _ := HS.out.cell (i := 2) rfl
  have x3_ : W1.cell? ⟨w.heap.size, 3, none⟩ = _ := HS.out.cell (i := 3) rfl
  have x4_ : W1.cell? ⟨w.heap.size, 4, none⟩ = _ := HS.out.cell (i := 4) rfl
  have x5_ : W1.cell? ⟨w.heap.size, 5, none⟩ = _ := HS.out.cell (i := 5) rfl
  have x6_ : W1.cell? ⟨w.heap.size, 6, none⟩ = _ := HS.out.cell (i := 6) rfl
  go_wp2_with fail
  refine (Show_any s p W1 Hm.out).mono ?_; rintro e W2 ⟨⟨p1, rfl, hma⟩, hba⟩
  clear x0_ x1_ x2_ x3_ x4_ x5_ x6_
  go_wp2_with fail
  refine (list_any A n c l W2 Hn.out (by omega) (Hd.out.ext hba)).mono ?_; rintro e W3 ⟨vl, rfl, ⟨A5, c5, rfl, -, -, hd5, -⟩, hbb⟩
  rw [Hn.out]
  go_wp2_with fail
  refine (Fault_any s p1 A5 n c5 l W3 (hma.ext hbb) Hn.out hn12 hd5).mono ?_; rintro e W4 ⟨⟨x1, y1, z1, rfl, hA0, hA1, hA2⟩, hbc⟩
  have hbz := ext_trans hba (ext_trans hbb hbc)
  have Hm_0 := Lib.hid (Hm.out.ext hbz)
  have HS_0 := Lib.hid (HS.out.ext hbz)
  have hbw_0 := ext_trans hbw hbz
  have Hd_0 := Lib.hid (Hd.out.ext hbz)
  clear Hm HS hbw Hd hba hbb hbc hbz hma hd5
  have HA0 := Lib.hid hA0
  have HA1 := Lib.hid hA1
  have HA2 := Lib.hid hA2
  clear hA0 hA1 hA2
  have x0_ : W4.cell? ⟨w.heap.size, 0, none⟩ = _ := HS_0.out.cell (i := 0) rfl
  have x1_ : W4.cell? ⟨w.heap.size, 1, none⟩ = _ := HS_0.out.cell (i := 1) rfl
  have x2_ : W4.cell? ⟨w.heap.size, 2, none⟩ = _ := HS_0.out.cell (i := 2) rfl
  have x3_ : W4.cell? ⟨w.heap.size, 3, none⟩ = _ := HS_0.out.cell (i := 3) rfl
  have x4_ : W4.cell? ⟨w.heap.size, 4, none⟩ = _ := HS_0.out.cell (i := 4) rfl
  have x5_ : W4.cell? ⟨w.heap.size, 5, none⟩ = _ := HS_0.out.cell (i := 5) rfl
  have x6_ : W4.cell? ⟨w.heap.size, 6, none⟩ = _ := HS_0.out.cell (i := 6) rfl
  go_wp2_with fail
  refine (Show_any s p W4 Hm_0.out).mono ?_; rintro e W5 ⟨⟨p2, rfl, hma⟩, hba⟩
  clear x0_ x1_ x2_ x3_ x4_ x5_ x6_
  go_wp2_with fail
  refine (list_any A n c l W5 Hn.out (by omega) (Hd_0.out.ext hba)).mono ?_; rintro e W6 ⟨vl, rfl, ⟨A5, c5, rfl, -, -, hd5, -⟩, hbb⟩
  rw [Hn.out]
  go_wp2_with fail
  refine (Cost_any s p2 A5 n c5 l W6 (hma.ext hbb) Hn.out hn12 hd5).mono ?_; rintro e W7 ⟨⟨x2, z2, rfl, hB0, hB1, hB2⟩, hbc⟩
  have hbz := ext_trans hba (ext_trans hbb hbc)
  have Hm_1 := Lib.hid (Hm_0.out.ext hbz)
  have HS_1 := Lib.hid (HS_0.out.ext hbz)
  have hbw_1 := ext_trans hbw_0 hbz
  have Hd_1 := Lib.hid (Hd_0.out.ext hbz)
  clear Hm_0 HS_0 hbw_0 Hd_0 hba hbb hbc hbz hma hd5
  have HB0 := Lib.hid hB0
  have HB1 := Lib.hid hB1
  have HB2 := Lib.hid hB2
  clear hB0 hB1 hB2
  have x0_ : W7.cell? ⟨w.heap.size, 0, none⟩ = _ := HS_1.out.cell (i := 0) rfl
  have x1_ : W7.cell? ⟨w.heap.size, 1, none⟩ = _ := HS_1.out.cell (i := 1) rfl
  have x2_ : W7.cell? ⟨w.heap.size, 2, none⟩ = _ := HS_1.out.cell (i := 2) rfl
  have x3_ : W7.cell? ⟨w.heap.size, 3, none⟩ = _ := HS_1.out.cell (i := 3) rfl
  have x4_ : W7.cell? ⟨w.heap.size, 4, none⟩ = _ := HS_1.out.cell (i := 4) rfl
  have x5_ : W7.cell? ⟨w.heap.size, 5, none⟩ = _ := HS_1.out.cell (i := 5) rfl
  have x6_ : W7.cell? ⟨w.heap.size, 6, none⟩ = _ := HS_1.out.cell (i := 6) rfl
  go_wp2_with fail
  refine (Show_any s p W7 Hm_1.out).mono ?_; rintro e W8 ⟨⟨p3, rfl, hma⟩, hba⟩
  clear x0_ x1_ x2_ x3_ x4_ x5_ x6_
  go_wp2_with fail
  refine (list_any A n c l W8 Hn.out (by omega) (Hd_1.out.ext hba)).mono ?_; rintro e W9 ⟨vl, rfl, ⟨A5, c5, rfl, -, -, hd5, -⟩, hbb⟩
  rw [Hn.out]
  go_wp2_with fail
  refine (Sheet_any s p3 A5 n c5 l W9 (hma.ext hbb) Hn.out hn12 hd5).mono ?_; rintro e W10 ⟨⟨v3, x3, z3, rfl, hC0, hC1, hC2⟩, hbc⟩
  have hbz := ext_trans hba (ext_trans hbb hbc)
  have Hm_2 := Lib.hid (Hm_1.out.ext hbz)
  have HS_2 := Lib.hid (HS_1.out.ext hbz)
  have hbw_2 := ext_trans hbw_1 hbz
  have Hd_2 := Lib.hid (Hd_1.out.ext hbz)
  clear Hm_1 HS_1 hbw_1 Hd_1 hba hbb hbc hbz hma hd5
  have HC0 := Lib.hid hC0
  have HC1 := Lib.hid hC1
  have HC2 := Lib.hid hC2
  clear hC0 hC1 hC2
  have Hm := Hm_2
  have HS := HS_2
  have hbw := hbw_2
  have Hd := Hd_2
  clear Hm_2 HS_2 hbw_2 Hd_2
  go_upto_region 6 with fail
  have x0_ : W10.cell? ⟨w.heap.size, 0, none⟩ = _ := HS.out.cell (i := 0) rfl
  have x1_ : W10.cell? ⟨w.heap.size, 1, none⟩ = _ := HS.out.cell (i := 1) rfl
  have x2_ : W10.cell? ⟨w.heap.size, 2, none⟩ = _ := HS.out.cell (i := 2) rfl
  have x3_ : W10.cell? ⟨w.heap.size, 3, none⟩ = _ := HS.out.cell (i := 3) rfl
  have x4_ : W10.cell? ⟨w.heap.size, 4, none⟩ = _ := HS.out.cell (i := 4) rfl
  have x5_ : W10.cell? ⟨w.heap.size, 5, none⟩ = _ := HS.out.cell (i := 5) rfl
  have x6_ : W10.cell? ⟨w.heap.size, 6, none⟩ = _ := HS.out.cell (i := 6) rfl
  go_wp2_with fail
  refine (Right_any s p W10 Hm.out).mono ?_; rintro e W11 ⟨rfl, hbr⟩
  clear x0_ x1_ x2_ x3_ x4_ x5_ x6_
  have Hm2 := Lib.hid (Hm.out.ext hbr)
  have HS2 := Lib.hid (HS.out.ext hbr)
  have hbw2 := ext_trans hbw hbr
  have Hd2 := Lib.hid (Hd.out.ext hbr)
  have HL := Lib.hid hbr
  clear Hm HS hbw Hd hbr
  have Hbad := Lib.hid (show ∀ b : Int, b ≠ 0 → askE s l = b → x1 = 0 ∧ y1 = 0 ∧ z1 = b ∧ x2 = 0 ∧ z2 = b ∧ v3 = .slice none 0 0 ∧ x3 = 0 ∧ z3 = b from fun b hb ha => by
    have hr : rightE s l = b := by unfold rightE; rw [if_neg (by omega), ha]
    obtain ⟨e1, e2, e3⟩ := HA0.out (by omega)
    have e4 := HB0.out
    have e5 := HB1.out (by omega)
    have e6 := HC0.out
    obtain ⟨e7, e8⟩ := HC1.out (by omega)
    exact ⟨e1, e2, by omega, e5, by omega, e7, e8, by omega⟩)
  cases hok : s.okB
  · obtain ⟨rfl, rfl, rfl, rfl, rfl, rfl, rfl, rfl⟩ := Hbad.out 1 (by decide) (by unfold askE; rw [hok]; rfl)
    clear Hbad HA0 HA1 HA2 HB0 HB1 HB2 HC0 HC1 HC2 hok
    go_wp2_with fail
    refine (wakes_any _).mono ?_; rintro e wz ⟨rfl, hbz⟩
    go_wp2
    go_ret
    exact ⟨rfl, ext_trans hbw2 hbz⟩
  have Hok := Lib.hid (Sh.ok_of hok)
  have x0_ : W11.cell? ⟨w.heap.size, 0, none⟩ = _ := HS2.out.cell (i := 0) rfl
  have x1_ : W11.cell? ⟨w.heap.size, 1, none⟩ = _ := HS2.out.cell (i := 1) rfl
  have x2_ : W11.cell? ⟨w.heap.size, 2, none⟩ = _ := HS2.out.cell (i := 2) rfl
  have x3_ : W11.cell? ⟨w.heap.size, 3, none⟩ = _ := HS2.out.cell (i := 3) rfl
  have x4_ : W11.cell? ⟨w.heap.size, 4, none⟩ = _ := HS2.out.cell (i := 4) rfl
  have x5_ : W11.cell? ⟨w.heap.size, 5, none⟩ = _ := HS2.out.cell (i := 5) rfl
  have x6_ : W11.cell? ⟨w.heap.size, 6, none⟩ = _ := HS2.out.cell (i := 6) rfl
  go_wp2_with fail
  refine (Order_any s p A n c l W11 Hm2.out Hn.out hm Hd2.out).mono ?_; rintro e W12 ⟨rfl, hbr⟩
  clear x0_ x1_ x2_ x3_ x4_ x5_ x6_
  have Hm := Lib.hid (Hm2.out.ext hbr)
  have HS := Lib.hid (HS2.out.ext hbr)
  have hbw := ext_trans hbw2 hbr
  have Hd := Lib.hid (Hd2.out.ext hbr)
  have HL2 := Lib.hid (ext_trans HL.out hbr)
  clear Hm2 HS2 hbw2 Hd2 hbr HL
  cases ho : ordB s.acts.length l
  · obtain ⟨rfl, rfl, rfl, rfl, rfl, rfl, rfl, rfl⟩ := Hbad.out 2 (by decide) (by unfold askE; rw [hok, ho]; rfl)
    clear Hbad HA0 HA1 HA2 HB0 HB1 HB2 HC0 HC1 HC2 hok ho
    go_wp2_with fail
    refine (wakes_any _).mono ?_; rintro e wz ⟨rfl, hbz⟩
    go_wp2
    go_ret
    exact ⟨rfl, ext_trans hbw hbz⟩
  have hask : askE s l = 0 := by unfold askE; rw [hok, ho]; rfl
  obtain ⟨k, rfl, hk1, hk2, hk3⟩ := ord_nat ho
  clear Hbad hok ho
  have HR := Lib.hid (show rightE s (toI k) = if (s.fault k).2 = 0 then 0 else 9 from by unfold rightE; rw [if_pos hask, toI_toNat])
  have hA1 := HA1.out hask
  have hA2 := HA2.out hask
  have hB0 := HB0.out
  have hB1 := HB1.out
  have hB2 := HB2.out
  have hC0 := HC0.out
  have hC1 := HC1.out
  have hC2 := HC2.out
  rw [toI_toNat] at hA1 hA2 hB2 hC2
  rw [HR.out] at hB0 hC0
  clear HA0 HA1 HA2 HB0 HB1 HB2 HC0 HC1 HC2 HR hask
  have hkn : k.length = n := by rw [← toI_len k]; exact Hn.out
  have HC := Lib.hid (RFault_any s p A n c k W12 Hm.out Hok.out hk2 hkn (by omega) Hd.out)
  generalize hf : s.fault k = ft at *
  obtain ⟨f1, f2⟩ := ft
  simp only at hA1 hA2 hB0 hC0 HC
  have Hf := Lib.hid hf
  clear hf
  go_upto_region 13 with fail
  have x0_ : W12.cell? ⟨w.heap.size, 0, none⟩ = _ := HS.out.cell (i := 0) rfl
  have x1_ : W12.cell? ⟨w.heap.size, 1, none⟩ = _ := HS.out.cell (i := 1) rfl
  have x2_ : W12.cell? ⟨w.heap.size, 2, none⟩ = _ := HS.out.cell (i := 2) rfl
  have x3_ : W12.cell? ⟨w.heap.size, 3, none⟩ = _ := HS.out.cell (i := 3) rfl
  have x4_ : W12.cell? ⟨w.heap.size, 4, none⟩ = _ := HS.out.cell (i := 4) rfl
  have x5_ : W12.cell? ⟨w.heap.size, 5, none⟩ = _ := HS.out.cell (i := 5) rfl
  have x6_ : W12.cell? ⟨w.heap.size, 6, none⟩ = _ := HS.out.cell (i := 6) rfl
  by_cases hf2 : f2 = 0
  rotate_left
  · rw [if_neg hf2] at hB0 hC0
    obtain ⟨hx1, hy1, hz1⟩ := hA2 hf2
    have hx2 := hB1 (by omega)
    obtain ⟨hv3, hx3⟩ := hC1 (by omega)
    have hf3 : ((f2 : Int) != 0) = true := by simp [hf2]
    have Hf2 := Lib.hid hf2
    clear hA1 hA2 hB1 hB2 hC1 hC2 hf2
    subst hx1 hy1 hz1 hx2 hv3 hx3 hB0 hC0
    go_wp2_with fail
    refine (HC.out).mono ?_; rintro e W13 ⟨rfl, hbr⟩
    clear x0_ x1_ x2_ x3_ x4_ x5_ x6_
    go_wp2_with fail
    refine (wakes_any _).mono ?_; rintro e wz ⟨rfl, hbz⟩
    go_wp2
    go_ret
    exact ⟨rfl, ext_trans (ext_trans hbw hbr) hbz⟩
  subst hf2
  rw [if_pos rfl] at hB0 hC0
  subst hB0
  subst hC0
  obtain ⟨rfl, rfl, rfl⟩ := hA1 rfl
  obtain rfl := hB2 rfl
  obtain ⟨⟨A7, c7, rfl, -, -, hd7, -⟩, rfl⟩ := hC2 rfl
  clear hA1 hA2 hB1 hB2 hC1 hC2
  have hd7 := hd7.ext HL2.out
  have hk0 : 0 < k.length := by rw [hk1]; exact Hok.out.n1
  obtain ⟨E, e1, e2, e3, e4, e5, e6, e7⟩ := Sh.sheet_facts Hok.out hk0 hk2
  have Hk2 := Lib.hid hk2
  have H2 := Lib.hid e2
  have H3 := Lib.hid e3
  have H4 := Lib.hid e4
  have H5 := Lib.hid e5
  have H6 := Lib.hid e6
  have H7 := Lib.hid e7
  rw [hkn] at e1
  rw [e1]
  have He1 := Lib.hid e1
  have HCo := Lib.hid (fun W hW hd => RCost_any s p A n c k W hW Hok.out Hk2.out hkn (by omega) hd)
  generalize s.cost k = cst at *
  generalize (s.sheet k).1 = st at *
  generalize (s.sheet k).2 = en at *
  have hen : en = sumS E n := by
    rw [H5.out, hkn]
    obtain ⟨m, hm⟩ : ∃ m, n = m + 1 := ⟨n - 1, by omega⟩
    rw [hm]; rfl
  have Hen := Lib.hid hen
  clear e1 e2 e3 e4 e5 e6 e7 hk3 hk2 hen H5 HL2
  go_wp2_with fail
  refine (HC.out).mono ?_; rintro e W13 ⟨rfl, hbr⟩
  have hm13 := Hm.out.ext hbr
  have hS13 := HS.out.ext hbr
  have hbw13 := ext_trans hbw hbr
  have hd13 := Hd.out.ext hbr
  have h713 := hd7.ext hbr
  clear Hm HS hbw Hd hbr hd7 HC x0_ x1_ x2_ x3_ x4_ x5_ x6_
  go_upto_region 16 with fail
  have x0 : W13.cell? ⟨w.heap.size, 0, none⟩ = _ := hS13.cell (i := 0) rfl
  have x1 : W13.cell? ⟨w.heap.size, 1, none⟩ = _ := hS13.cell (i := 1) rfl
  have x2 : W13.cell? ⟨w.heap.size, 2, none⟩ = _ := hS13.cell (i := 2) rfl
  have x3 : W13.cell? ⟨w.heap.size, 3, none⟩ = _ := hS13.cell (i := 3) rfl
  have x4 : W13.cell? ⟨w.heap.size, 4, none⟩ = _ := hS13.cell (i := 4) rfl
  have x5 : W13.cell? ⟨w.heap.size, 5, none⟩ = _ := hS13.cell (i := 5) rfl
  have x6 : W13.cell? ⟨w.heap.size, 6, none⟩ = _ := hS13.cell (i := 6) rfl
  go_wp2_with fail
  refine (HCo.out W13 hm13 hd13).mono ?_; rintro e W14 ⟨rfl, hbr⟩
  have hm14 := hm13.ext hbr
  have hS14 := hS13.ext hbr
  have hbw14 := ext_trans hbw13 hbr
  have hd14 := hd13.ext hbr
  have h714 := h713.ext hbr
  clear hm13 hS13 hbw13 hd13 h713 hbr HCo x0 x1 x2 x3 x4 x5 x6
  go_upto_block 0 with fail
  go_wp2
  go_loopw [16, 17] (fun sm t wr => ∃ i : Nat, sm = .int .i64 (sumS E i) ∧ t = .int .i64 i ∧ i ≤ n ∧ Below W14.heap.size W14 wr) (fun _ t _ => n - (intOf t).toNat)
  case atStart => exact ⟨0, rfl, rfl, by omega, Below.refl _ _⟩
  case round =>
    obtain ⟨i, rfl, rfl, hi, hbr⟩ := hrel
    by_cases hlt : i < n
    · have hlt' : (i : Int) < (n : Int) := by omega
      have hi0 : (0 : Int) ≤ (i : Int) := by omega
      have hik : i < k.length := by omega
      have ha : k[i] < s.acts.length := Hk2.out _ (List.getElem_mem hik)
      go_upto_if 184 with fail
      go_cut [16] (fun z Wc => z = .int .i64 (st.getD i 0) ∧ Below W14.heap.size W14 Wc)
      case first =>
        cases i with
        | zero =>
          have h2 := H2.out
          have HH := Lib.hid h2
          clear h2
          go_wp2
          go_meet
          case rel => exact ⟨by rw [HH.out]; rfl, hbr⟩
        | succ j =>
          have hpos : ((j + 1 : Nat) : Int) > 0 := by omega
          have hsub : ((j + 1 : Nat) : Int) - 1 = (j : Int) := by omega
          have hj0 : (0 : Int) ≤ (j : Int) := by omega
          have hj1 : (j : Int) < (n : Int) := by omega
          have hjk : j < k.length := by omega
          have hb : k[j] < s.acts.length := Hk2.out _ (List.getElem_mem hjk)
          go_upto_region 23 with fail
          refine Dr.wp_region_plan 16 [] (.q [0, 1, 2, 3, 4, 5, 6, 7, 8, 9] (.e1 10 (.q [11, 12, 13, 14, 15] .done))) (by kernel_rfl) (by kernel_rfl) ?_
          have hbd := hbr.drew
          have hSd := hS14.ext hbd
          have hmd := hm14.ext hbd
          have hdd := hd14.ext hbd
          clear hbr
          generalize World.drew _ = W at *
          obtain ⟨bl, ol, hAl, -, cl⟩ := hdd.at1 (k := j) (by rw [toI_len]; exact hjk) rfl
          obtain ⟨bl', ol', hAl', -, cl'⟩ := hdd.at1 (k := j + 1) (by rw [toI_len]; exact hik) rfl
          rw [hAl] at hAl'
          cases hAl'
          rw [toI_get hjk] at cl
          rw [toI_get hik] at cl'
          have CR := Lib.hid (RChange_any s p k[j] k[j + 1] W hmd Hok.out hb ha)
          have hga : k.getD j 0 = k[j] := by simp [hjk]
          have hgb : k.getD (j + 1) 0 = k[j + 1] := by simp [hik]
          have h4 := H4.out j hik
          have h6 := H6.out j hjk
          have hcm := Hok.out.chM k[j] k[j + 1]
          rw [hga, hgb] at h4
          generalize k[j] = ka at *
          generalize k[j + 1] = kb at *
          generalize s.chC ka kb = cc at *
          generalize s.chM ka kb = cm at *
          have Hst : Hid (st.getD (j + 1) 0 = sumS E (j + 1) + cm) := Lib.hid h4
          have hsb : 0 ≤ sumS E (j + 1) ∧ sumS E (j + 1) ≤ 20000 := by simp only [sumS]; omega
          clear h4 h6 hga hgb hmd hdd ha hb
          have q0 := Dr.cell0 (hSd.cell (i := 0) rfl)
          have q1 := Dr.cell0 (hSd.cell (i := 1) rfl)
          have q2 := Dr.cell0 (hSd.cell (i := 2) rfl)
          have q3 := Dr.cell0 (hSd.cell (i := 3) rfl)
          have q4 := Dr.cell0 (hSd.cell (i := 4) rfl)
          have q5 := Dr.cell0 (hSd.cell (i := 5) rfl)
          have q6 := Dr.cell0 (hSd.cell (i := 6) rfl)
          subst hAl
          have c0 := Dr.cell0 cl
          have c1 := Dr.cell0 cl'
          clear cl cl' hSd
          generalize sumS E (j + 1) = S at *
          refine Dr.plan_q (l := [_, _, _, _, _, _, _, _, _, _]) rfl (fun K hK => ?_)
          iterate 10 (go_big_quiet_step (fail))
          refine wpQuiet_nil (hK _ ?_); clear hK K c0 c1 q0 q1 q2 q3 q4 q5 q6
          refine Dr.plan_e rfl (by rfl) (fun K hK => ?_)
          go_wp2_with fail
          refine CR.out.mono ?_; rintro e w1 ⟨rfl, hb1⟩
          refine hK _ _ (.of hb1) ?_; clear hK K
          refine Dr.plan_q (l := [_, _, _, _, _]) rfl (fun K hK => ?_)
          iterate 5 (go_big_quiet_step (fail))
          refine wpQuiet_nil (hK _ ?_); clear hK K
          refine Dr.plan_end rfl ?_
          go_wp2
          go_meet
          case rel => exact ⟨by rw [Hst.out], hbd.trans (hb1.mono hbd.size)⟩
      case rest =>
        obtain ⟨rfl, hbc⟩ := hcut
        have hSr := hS14.ext hbc
        have hmr := hm14.ext hbc
        have hdr := hd14.ext hbc
        have h7r := h714.ext hbc
        obtain ⟨b7, o7, hA7, -, c7'⟩ := h7r.at1 (k := i) (by rw [He1.out]; exact hlt) rfl
        have hst : st.getD i 0 = st[i]'(by rw [He1.out]; exact hlt) := by simp [show i < st.length by rw [He1.out]; exact hlt]
        rw [← hst] at c7'
        subst hA7
        have hga : k.getD i 0 = k[i] := by simp [hik]
        have h3 := H3.out i hik
        have h7 := H7.out i hik
        rw [hga] at h3
        have hmn := (Hok.out.act ha).min
        have HS1 := Lib.hid (show st.getD i 0 + (s.act k[i]).min = sumS E (i + 1) from h3.symm)
        clear h3 hga hst
        generalize st.getD i 0 = sti at *
        go_upto_region 27 with fail
        refine Dr.wp_region_plan 12 [] (.q [0, 1, 2, 3, 4, 5, 6, 7, 8, 9, 10, 11] .done) (by kernel_rfl) (by kernel_rfl) ?_
        have hbd := hbc.drew
        have hSd := hSr.ext (ext_drew wc)
        have hmd := hmr.ext (ext_drew wc)
        have hdd := hdr.ext (ext_drew wc)
        clear hSr hmr hdr h7r hbc c7'
        generalize World.drew _ = W at *
        obtain ⟨ba, oa, C, cz, hA, -, c0, -, -, -, -, -⟩ := hmd.at ha
        obtain ⟨bl, ol, hAl, -, cl⟩ := hdd.at1 (k := i) (by rw [toI_len]; exact hik) rfl
        rw [toI_get hik] at cl
        rw [hA] at hSd
        subst hAl
        have q0 := Dr.cell0 c0
        have q1 := Dr.cell0 cl
        have q2 := Dr.cell0 (hSd.cell (i := 0) rfl)
        have hka0 : (0 : Int) ≤ (k[i] : Int) := by omega
        have hka1 : (k[i] : Int) < (s.acts.length : Int) := by omega
        clear hA hmd hdd c0 cl hSd
        generalize k[i] = a at *
        generalize (s.act a).min = mn at *
        refine Dr.plan_q (l := [_, _, _, _, _, _, _, _, _, _, _, _]) rfl (fun K hK => ?_)
        iterate 12 (go_big_quiet_step (fail))
        refine wpQuiet_nil (hK _ ?_); clear hK K q0 q1 q2
        refine Dr.plan_end rfl ?_
        go_wp2
        go_roundw
        case rel => exact ⟨i + 1, by rw [HS1.out], by go_num, by omega, hbd⟩
        case measure => simp [intOf]; omega
    · obtain rfl : i = n := by omega
      have HS := Lib.hid (show en = sumS E i from Hen.out)
      rw [← HS.out]
      go_upto_region 28 with fail
      go_wp2_with fail
      refine (wakes_any _).mono ?_; rintro e wz ⟨rfl, hbz⟩
      go_wp2
      go_ret
      exact ⟨rfl, ext_trans (ext_trans hbw14 hbr) hbz⟩
end Go.Proofs.Ytcnidhcdkbfpcaa

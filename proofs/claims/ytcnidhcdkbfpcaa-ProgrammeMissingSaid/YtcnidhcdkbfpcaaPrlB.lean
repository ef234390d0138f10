/- The law ProgrammeSheets: its walk. -/
import Derived.Test.YtcnidhcdkbfpcaaPgJ
import Derived.Test.YtcnidhcdkbfpcaaPgH
import Derived.Test.YtcnidhcdkbfpcaaPgA
namespace Go.Proofs.Ytcnidhcdkbfpcaa
open Go.RowKit Go.Bs Go.Pg Go.Pl Go.Sort
theorem toI_toNat (k : List Nat) : (toI k).map Int.toNat = k := by unfold toI; rw [List.map_map]; exact (List.map_congr_left (fun a _ => rfl)).trans (List.map_id k)
/-- the sum so far -/
def sumS (E : Nat → Int) : Nat → Int
  | 0 => 0
  | i + 1 => E i

set_option maxRecDepth 100000 in
set_option maxHeartbeats 10000000 in
theorem sheets_law (s : Sh) (p : ShP) (A : Option Addr) (n c : Nat) (l : List Int) (w : World) (h : ShW w s p) (hn : l.length = n) (hm : n ≤ 9223372036854775807) (hd : Cells w A 1 encI l) :
    Calls Try.prog 5 #[shV s p, .slice A n c] w fun e w' => e = .returned (.bool true) ∧ Below w.heap.size w w' := by
  have hb0 := ext_alloc w (.cells (shC s p).toArray 26)
  have hS := Blk.new w 26 (shC s p)
  have h0 := h.ext hb0
  have hd0 := hd.ext hb0
  have Hn := Lib.hid hn
  clear hd hn
  clear h
  unfold shV at *
  unfold shC at *
  go_enter Try.func5, Try.ntmps5
  go_upto_region 1 with fail
  change Blk (w.alloc (.cells #[.slice p.A s.acts.length p.cA, .slice p.R s.rest.length p.cR, .slice p.I s.ins.length p.cI, .slice p.O s.outs.length p.cO, .int .i64 s.cover, .int .i64 s.dull, .slice p.B s.before.length p.cB] 26)) _ _ _ at hS
  generalize w.alloc (.cells #[.slice p.A s.acts.length p.cA, .slice p.R s.rest.length p.cR, .slice p.I s.ins.length p.cI, .slice p.O s.outs.length p.cO, .int .i64 s.cover, .int .i64 s.dull, .slice p.B s.before.length p.cB] 26) = W0 at *
  have x0 : W0.cell? ⟨w.heap.size, 0, none⟩ = _ := hS.cell (i := 0) rfl
  have x1 : W0.cell? ⟨w.heap.size, 1, none⟩ = _ := hS.cell (i := 1) rfl
  have x2 : W0.cell? ⟨w.heap.size, 2, none⟩ = _ := hS.cell (i := 2) rfl
  have x3 : W0.cell? ⟨w.heap.size, 3, none⟩ = _ := hS.cell (i := 3) rfl
  have x4 : W0.cell? ⟨w.heap.size, 4, none⟩ = _ := hS.cell (i := 4) rfl
  have x5 : W0.cell? ⟨w.heap.size, 5, none⟩ = _ := hS.cell (i := 5) rfl
  have x6 : W0.cell? ⟨w.heap.size, 6, none⟩ = _ := hS.cell (i := 6) rfl

  go_wp2_with fail
  refine (Few_any s p W0 h0).mono ?_; rintro e W1 ⟨rfl, hb1⟩
  cases hf : s.fewB
  · clear x0 x1 x2 x3 x4 x5 x6
    go_wp2_with fail
    refine (wakes_any _).mono ?_; rintro e wz ⟨rfl, hbz⟩
    go_wp2
    go_ret
    exact ⟨rfl, ext_trans (ext_trans hb0 hb1) hbz⟩
  have hm1 := (h0.few hf).ext hb1
  have h12 := (Sh.few_iff.1 hf).2.1
  have hS1 := hS.ext hb1
  have hbw := ext_trans hb0 hb1
  have hd1 := hd0.ext hb1
  clear hb0 hb1 h0 hS hf hd0 x0 x1 x2 x3 x4 x5 x6
  have x0 : W1.cell? ⟨w.heap.size, 0, none⟩ = _ := hS1.cell (i := 0) rfl
  have x1 : W1.cell? ⟨w.heap.size, 1, none⟩ = _ := hS1.cell (i := 1) rfl
  have x2 : W1.cell? ⟨w.heap.size, 2, none⟩ = _ := hS1.cell (i := 2) rfl
  have x3 : W1.cell? ⟨w.heap.size, 3, none⟩ = _ := hS1.cell (i := 3) rfl
  have x4 : W1.cell? ⟨w.heap.size, 4, none⟩ = _ := hS1.cell (i := 4) rfl
  have x5 : W1.cell? ⟨w.heap.size, 5, none⟩ = _ := hS1.cell (i := 5) rfl
  have x6 : W1.cell? ⟨w.heap.size, 6, none⟩ = _ := hS1.cell (i := 6) rfl
  go_wp2_with fail
  refine (Right_any s p W1 hm1).mono ?_; rintro e W2 ⟨rfl, hb2⟩
  cases hok : s.okB
  · clear x0 x1 x2 x3 x4 x5 x6 hok
    go_wp2_with fail
    refine (wakes_any _).mono ?_; rintro e wz ⟨rfl, hbz⟩
    go_wp2
    go_ret
    exact ⟨rfl, ext_trans (ext_trans hbw hb2) hbz⟩
  have Hok := Lib.hid (Sh.ok_of hok)
  have Hokb := Lib.hid hok
  have hm2 := hm1.ext hb2
  have hS2 := hS1.ext hb2
  have hbw2 := ext_trans hbw hb2
  have hd2 := hd1.ext hb2
  clear hbw hb2 hm1 hS1 hok hd1 x0 x1 x2 x3 x4 x5 x6
  have x0 : W2.cell? ⟨w.heap.size, 0, none⟩ = _ := hS2.cell (i := 0) rfl
  have x1 : W2.cell? ⟨w.heap.size, 1, none⟩ = _ := hS2.cell (i := 1) rfl
  have x2 : W2.cell? ⟨w.heap.size, 2, none⟩ = _ := hS2.cell (i := 2) rfl
  have x3 : W2.cell? ⟨w.heap.size, 3, none⟩ = _ := hS2.cell (i := 3) rfl
  have x4 : W2.cell? ⟨w.heap.size, 4, none⟩ = _ := hS2.cell (i := 4) rfl
  have x5 : W2.cell? ⟨w.heap.size, 5, none⟩ = _ := hS2.cell (i := 5) rfl
  have x6 : W2.cell? ⟨w.heap.size, 6, none⟩ = _ := hS2.cell (i := 6) rfl
  go_wp2_with fail
  refine (Order_any s p A n c l W2 hm2 Hn.out hm hd2).mono ?_; rintro e W3 ⟨rfl, hb3⟩
  cases ho : ordB s.acts.length l
  · clear x0 x1 x2 x3 x4 x5 x6 ho
    go_wp2_with fail
    refine (wakes_any _).mono ?_; rintro e wz ⟨rfl, hbz⟩
    go_wp2
    go_ret
    exact ⟨rfl, ext_trans (ext_trans hbw2 hb3) hbz⟩
  have hm3 := hm2.ext hb3
  have hS3 := hS2.ext hb3
  have hbw3 := ext_trans hbw2 hb3
  have hd3 := hd2.ext hb3
  obtain ⟨k, rfl, hk1, hk2, hk3⟩ := ord_nat ho
  have hask : askE s (toI k) = 0 := by unfold askE; rw [Hokb.out, ho]; rfl
  have Hask := Lib.hid hask
  have hkn : k.length = n := by rw [← toI_len k]; exact Hn.out
  have hna : n = s.acts.length := by omega
  have hn12 : n ≤ 12 := by omega
  have Hna := Lib.hid hna
  clear hna
  clear hask ho hbw2 hb3 hm2 hS2 hd2 x0 x1 x2 x3 x4 x5 x6
  go_upto_region 3 with fail
  have x0 : W3.cell? ⟨w.heap.size, 0, none⟩ = _ := hS3.cell (i := 0) rfl
  have x1 : W3.cell? ⟨w.heap.size, 1, none⟩ = _ := hS3.cell (i := 1) rfl
  have x2 : W3.cell? ⟨w.heap.size, 2, none⟩ = _ := hS3.cell (i := 2) rfl
  have x3 : W3.cell? ⟨w.heap.size, 3, none⟩ = _ := hS3.cell (i := 3) rfl
  have x4 : W3.cell? ⟨w.heap.size, 4, none⟩ = _ := hS3.cell (i := 4) rfl
  have x5 : W3.cell? ⟨w.heap.size, 5, none⟩ = _ := hS3.cell (i := 5) rfl
  have x6 : W3.cell? ⟨w.heap.size, 6, none⟩ = _ := hS3.cell (i := 6) rfl
  go_wp2_with fail
  refine (Show_any s p W3 hm3).mono ?_; rintro e W4 ⟨⟨p1, rfl, hm4⟩, hb4⟩
  have hd4 := hd3.ext hb4
  go_wp2_with fail
  refine (list_any A n c (toI k) W4 Hn.out (by omega) hd4).mono ?_; rintro e W5 ⟨vl, rfl, ⟨A5, c5, rfl, -, -, hd5, -⟩, hb5⟩
  rw [Hn.out]
  go_wp2_with fail
  refine (Sheet_any s p1 A5 n c5 (toI k) W5 (hm4.ext hb5) Hn.out hn12 hd5).mono ?_; rintro e W6 ⟨⟨v, x, z, rfl, hz, -, hz1⟩, hb6⟩
  have hb46 := ext_trans hb4 (ext_trans hb5 hb6)
  have hm6 := hm3.ext hb46
  have hS6 := hS3.ext hb46
  have hd6 := hd3.ext hb46
  have hbw6 := ext_trans hbw3 hb46
  rw [toI_toNat] at hz1
  unfold rightE at hz
  rw [if_pos Hask.out, toI_toNat] at hz
  clear hm3 hS3 hd3 hbw3 hb4 hb5 hb6 hb46 hm4 hd4 hd5 x0 x1 x2 x3 x4 x5 x6
  by_cases hft : (s.fault k).2 = 0
  rotate_left
  · rw [if_neg hft] at hz
    subst hz
    clear hft hz1
    go_wp2_with fail
    refine (wakes_any _).mono ?_; rintro e wz ⟨rfl, hbz⟩
    go_wp2
    go_ret
    exact ⟨rfl, ext_trans hbw6 hbz⟩
  rw [if_pos hft] at hz
  subst hz
  obtain ⟨⟨A7, c7, rfl, -, -, hd7, -⟩, rfl⟩ := hz1 rfl
  have hk0 : 0 < k.length := by rw [hk1]; exact Hok.out.n1
  obtain ⟨E, e1, e2, e3, e4, e5, e6, e7⟩ := Sh.sheet_facts Hok.out hk0 hk2
  have Hnd := Lib.hid (List.pairwise_iff_getElem.1 (List.nodup_iff_pairwise_ne.1 hk3))
  have Hk2 := Lib.hid hk2
  have H2 := Lib.hid e2
  have H3 := Lib.hid e3
  have H4 := Lib.hid e4
  have H5 := Lib.hid e5
  have H6 := Lib.hid e6
  have H7 := Lib.hid e7
  rw [hkn] at e1
  rw [e1]
  have He1 := Lib.hid e1
  generalize (s.sheet k).1 = st at *
  generalize (s.sheet k).2 = en at *
  have hen : en = sumS E n := by
    rw [H5.out, hkn]
    obtain ⟨m, hm⟩ : ∃ m, n = m + 1 := ⟨n - 1, by omega⟩
    rw [hm]; rfl
  have Hen := Lib.hid hen
  clear e1 e2 e3 e4 e5 e6 e7 hft hk3 hk2 hen H5
  go_upto_region 8 with fail
  go_upto_block 0 with fail
  go_wp2
  go_loopw [8, 9] (fun sm t wr => ∃ i : Nat, sm = .int .i64 (sumS E i) ∧ t = .int .i64 i ∧ i ≤ n ∧ Below W6.heap.size W6 wr) (fun _ t _ => n - (intOf t).toNat)
  case atStart => exact ⟨0, rfl, rfl, by omega, Below.refl _ _⟩
  case round =>
    obtain ⟨i, rfl, rfl, hi, hbr⟩ := hrel
    have hSr := hS6.ext hbr
    have hmr := hm6.ext hbr
    have hdr := hd6.ext hbr
    have h7r := hd7.ext hbr
    by_cases hlt : i < n
    · have hlt' : (i : Int) < (n : Int) := by omega
      have hi0 : (0 : Int) ≤ i := by omega
      have hik : i < k.length := by omega
      have ha : k[i] < s.acts.length := Hk2.out _ (List.getElem_mem hik)
      have hga : k.getD i 0 = k[i] := by simp [hik]
      have hE3 := H3.out i hik
      have hE6 := H6.out i hik
      have hE7 := H7.out i hik
      rw [hga] at hE3
      have hmn := (Hok.out.act ha).min
      go_upto_region 12 with fail
      refine Dr.wp_region_plan 12 [] (.q [0, 1, 2, 3, 4, 5, 6, 7, 8, 9, 10, 11] .done) (by kernel_rfl) (by kernel_rfl) ?_
      have hbd := hbr.drew
      have hSd := hSr.ext (ext_drew wr)
      have hmd := hmr.ext (ext_drew wr)
      have hdd := hdr.ext (ext_drew wr)
      have h7d := h7r.ext (ext_drew wr)
      clear hbr hSr hmr hdr h7r
      generalize World.drew _ = W at *
      have HSd := Lib.hid hSd
      have Hmd := Lib.hid hmd
      have Hdd := Lib.hid hdd
      obtain ⟨ba, oa, C, cz, hA, -, c0, -, -, -, -, -⟩ := hmd.at ha
      obtain ⟨bl, ol, hAl, -, cl⟩ := hdd.at1 (k := i) (by rw [toI_len]; exact hik) rfl
      obtain ⟨b7, o7, hA7, -, c7'⟩ := h7d.at1 (k := i) (by rw [He1.out]; exact hlt) rfl
      rw [toI_get hik] at cl
      have hst : st.getD i 0 = st[i]'(by rw [He1.out]; exact hlt) := by simp [show i < st.length by rw [He1.out]; exact hlt]
      rw [← hst] at c7'
      rw [hA] at hSd
      subst hAl
      subst hA7
      have q0 := Dr.cell0 c0
      have q1 := Dr.cell0 cl
      have q2 := Dr.cell0 (hSd.cell (i := 0) rfl)
      have hka0 : (0 : Int) ≤ (k[i] : Int) := by omega
      have hka1 : (k[i] : Int) < (s.acts.length : Int) := by omega
      have hsb : 0 ≤ sumS E i ∧ sumS E i ≤ 20000 := by
        cases i with
        | zero => simp [sumS]
        | succ j => have := H6.out j (by omega); simp only [sumS]; omega
      clear hA hst hmd hdd
      have Hki := Lib.hid (show k[i] = k.getD i 0 from hga.symm)
      generalize k[i] = a at *
      have Hmin := Lib.hid (show (s.act a).min = (s.act a).min from rfl)
      refine Dr.plan_q (l := [_, _, _, _, _, _, _, _, _, _, _, _]) rfl (fun K hK => ?_)
      iterate 12 (go_big_quiet_step (fail))
      refine wpQuiet_nil (hK _ ?_); clear hK K q0 q1 q2
      refine Dr.plan_end rfl ?_
      cases i with
      | zero =>
        have hst0 := H2.out
        have hE0 := hE3
        rw [hst0] at c7' hE0
        rw [Nat.add_zero] at c7'
        have e1 : (0 : Int) + (s.act a).min = E 0 := by omega
        have He := Lib.hid hE0
        have HH : Hid (E 0 = (s.act a).min) := Lib.hid (by omega)
        clear hst0 hE3 hE0 e1 hga c0 cl
        go_wp2
        go_roundw
        case rel => exact ⟨1, by simp only [sumS]; rw [HH.out]; simp, by go_num, by omega, hbd⟩
        case measure => simp [intOf]; omega
      | succ j =>
        have hj : j < n := by omega
        have hjk : j < k.length := by omega
        have hb : k[j] < s.acts.length := Hk2.out _ (List.getElem_mem hjk)
        have hgb : k.getD j 0 = k[j] := by simp [hjk]
        have hF3 := H3.out j hjk
        have hF6 := H6.out j hjk
        have hF7 := H7.out j hjk
        have hF4 := H4.out j (by omega)
        rw [hgb] at hF3 hF4
        have hmb := (Hok.out.act hb).min
        have hne : (k[j] : Int) ≠ (a : Int) := by
          intro e
          have e2 : k[j] = k[j + 1] := by have := Hki.out; simp [hik] at this; omega
          exact Hnd.out j (j + 1) hjk hik (by omega) e2
        have hki := Hki.out
        rw [← hki] at hF4
        have hcm := Hok.out.chM k[j] a
        clear hE3 hga c0 cl c7' hki
        have hj0 : ¬ ((j + 1 : Nat) : Int) = 0 := by omega
        have hj1 : (((j + 1 : Nat) : Int) == 0) = false := by simp; omega
        have hsub : ((j + 1 : Nat) : Int) - 1 = (j : Int) := by omega
        go_upto_region 16 with fail
        refine Dr.wp_region_plan 19 [] (.q [0, 2, 3, 4, 5, 6, 7, 8, 9, 10] (.e1 1 (.e1 11 (.q [12, 13, 14, 15, 16, 17, 18] .done)))) (by kernel_rfl) (by kernel_rfl) ?_
        have hbd2 := ext_trans hbd (ext_drew W)
        have hSe := HSd.out.ext (ext_drew W)
        have hme := Hmd.out.ext (ext_drew W)
        have hde := Hdd.out.ext (ext_drew W)
        have h7e := h7d.ext (ext_drew W)
        clear hbd hSd h7d HSd Hmd Hdd
        generalize World.drew _ = V at *
        obtain ⟨b1, o1, hA1, -, d1⟩ := hde.at1 (k := j) (by rw [toI_len]; exact hjk) rfl
        obtain ⟨b2, o2, hA2, -, d2⟩ := hde.at1 (k := j + 1) (by rw [toI_len]; exact hik) rfl
        rw [toI_get hjk] at d1
        rw [toI_get hik] at d2
        have hkj : k[j + 1] = a := by have := Hki.out; simp [hik] at this; omega
        rw [hkj] at d2
        cases hA1
        cases hA2
        have r0 := Dr.cell0 (hSe.cell (i := 0) rfl)
        have r1 := Dr.cell0 (hSe.cell (i := 1) rfl)
        have r2 := Dr.cell0 (hSe.cell (i := 2) rfl)
        have r3 := Dr.cell0 (hSe.cell (i := 3) rfl)
        have r4 := Dr.cell0 (hSe.cell (i := 4) rfl)
        have r5 := Dr.cell0 (hSe.cell (i := 5) rfl)
        have r6 := Dr.cell0 (hSe.cell (i := 6) rfl)
        have u1 := Dr.cell0 d1
        have u2 := Dr.cell0 d2
        clear d1 d2
        have hkb1 : (k[j] : Int) < (s.acts.length : Int) := by omega
        have CS := Lib.hid (Show_any s p V hme)
        have CC := Lib.hid (fun q W' hW => Change_any s q k[j] a W' hW)
        have hchg : chgE s (k[j] : Int) (a : Int) = 0 := by
          unfold chgE
          rw [Hokb.out, btw_iff.2 (by omega), btw_iff.2 (by omega)]
          simp [hne]
        have Hchg := Lib.hid hchg
        have Hme := Lib.hid hme
        have Hde := Lib.hid hde
        have HS := Lib.hid (show sumS E (j + 1) = E j from rfl)
        have HS2 := Lib.hid (show sumS E (j + 1 + 1) = E (j + 1) from rfl)
        clear hchg hkj hme hde hgb hj0
        generalize hkb : k[j] = kb at *
        have Hkb := Lib.hid hkb
        clear hkb
        refine Dr.plan_q (l := [_, _, _, _, _, _, _, _, _, _]) rfl (fun K hK => ?_)
        iterate 10 (go_big_quiet_step (fail))
        refine wpQuiet_nil (hK _ ?_); clear hK K r0 r1 r2 r3 r4 r5 r6 u1 u2
        refine Dr.plan_e rfl (by rfl) (fun K hK => ?_)
        go_wp2_with fail
        refine CS.out.mono ?_; rintro e w1 ⟨⟨p9, rfl, hm9⟩, hb9⟩
        refine hK _ _ (.of hb9) ?_; clear hK K
        have CC9 := Lib.hid (CC.out p9 w1 hm9)
        clear CC CS
        refine Dr.plan_e rfl (by rfl) (fun K hK => ?_)
        go_wp2_with fail
        refine CC9.out.mono ?_; rintro e w2 ⟨⟨x, y, z, rfl, hz, -, hz1⟩, hb10⟩
        refine hK _ _ (.of hb10) ?_; clear hK K
        rw [Hchg.out] at hz
        subst hz
        obtain ⟨rfl, -⟩ := hz1 rfl
        simp only [Int.toNat_natCast]
        generalize hcx : s.chM kb a = cx at *
        have Hcx := Lib.hid hcx
        clear hcx hz1
        refine Dr.plan_q (l := [_, _, _, _, _, _, _]) rfl (fun K hK => ?_)
        iterate 7 (go_big_quiet_step (fail))
        refine wpQuiet_nil (hK _ ?_); clear hK K
        refine Dr.plan_end rfl ?_
        go_upto_region 17 with fail
        refine Dr.wp_region_plan 27 [] (.q [0, 1, 2, 3, 4, 5, 6, 7, 8, 9, 10, 11, 12, 13, 14, 15, 16, 17, 18, 19, 20, 21, 22, 23, 24, 25, 26] .done) (by kernel_rfl) (by kernel_rfl) ?_
        have hb11 := ext_trans hb9 (ext_trans hb10 (ext_drew w2))
        have hbf := ext_trans hbd2 hb11
        have hSf := hSe.ext hb11
        have hmf := Hme.out.ext hb11
        have hdf := Hde.out.ext hb11
        have h7f := h7e.ext hb11
        clear hb9 hb10 hb11 hbd2 hSe Hme Hde h7e CC9
        generalize w2.drew = X at *
        obtain ⟨ba2, oa2, C2, cz2, hA2, -, c02, -, -, -, -, -⟩ := hmf.at hb
        obtain ⟨b1, o1, hA1, -, d1⟩ := hdf.at1 (k := j) (by rw [toI_len]; exact hjk) rfl
        obtain ⟨b8, o8, hA8, -, d2⟩ := h7f.at1 (k := j) (by rw [He1.out]; exact hj) rfl
        obtain ⟨b9, o9, hA9, -, d3⟩ := h7f.at1 (k := j + 1) (by rw [He1.out]; exact hlt) rfl
        have hs1 : st.getD j 0 = st[j]'(by rw [He1.out]; exact hj) := by simp [show j < st.length by rw [He1.out]; exact hj]
        have hs2 : st.getD (j + 1) 0 = st[j + 1]'(by rw [He1.out]; exact hlt) := by simp [show j + 1 < st.length by rw [He1.out]; exact hlt]
        rw [toI_get hjk, Hkb.out] at d1
        rw [← hs1] at d2
        rw [← hs2] at d3
        cases hA1
        cases hA8
        cases hA9
        rw [hA2] at hSf
        have r0 := Dr.cell0 (hSf.cell (i := 0) rfl)
        have u0 := Dr.cell0 c02
        have u1 := Dr.cell0 d1
        have u2 := Dr.cell0 d2
        have u3 := Dr.cell0 d3
        clear hA2 hs1 hs2 c02 d1 d2 d3 hdf h7f hmf
        have hE3 := H3.out (j + 1) hik
        rw [← Hki.out] at hE3
        have HFs := Lib.hid (show sumS E (j + 1) + (s.act a).min + cx = sumS E (j + 1 + 1) from by rw [HS.out, HS2.out]; omega)
        have hne3 : (st.getD (j + 1) 0 != st.getD j 0 + (s.act kb).min + cx) = false := by rw [bne_eq_false_iff_eq]; omega
        have g1 : 0 ≤ st.getD j 0 ∧ st.getD j 0 ≤ 20000 := by omega
        have g2 : 0 ≤ (s.act kb).min ∧ (s.act kb).min ≤ 60 := by omega
        have g3 : 0 ≤ cx ∧ cx ≤ 960 := by omega
        have g4 : 0 ≤ (s.act a).min ∧ (s.act a).min ≤ 60 := by omega
        clear hE3 hE6 hE7 hF3 hF6 hF7 hF4 hmn hmb hcm hne hkb1 hka0 hka1
        generalize st.getD j 0 = sj at *
        generalize st.getD (j + 1) 0 = sj1 at *
        generalize (s.act kb).min = mb at *
        generalize (s.act a).min = ma at *
        refine Dr.plan_q (l := [_, _, _, _, _, _, _, _, _, _, _, _, _, _, _, _, _, _, _, _, _, _, _, _, _, _, _]) rfl (fun K hK => ?_)
        iterate 27 (go_big_quiet_step (fail))
        refine wpQuiet_nil (hK _ ?_); clear hK K r0 u0 u1 u2 u3
        refine Dr.plan_end rfl ?_
        go_upto_region 19 with fail
        go_wp2
        go_roundw
        case rel => exact ⟨j + 1 + 1, by rw [HFs.out], by go_num, by omega, hbf⟩
        case measure => simp [intOf]; omega
    · obtain rfl : i = n := by omega
      have HS := Lib.hid (show en = sumS E i from Hen.out)
      rw [← HS.out]
      go_upto_region 20 with fail
      clear hSr hmr hdr h7r
      go_wp2_with fail
      refine (wakes_any _).mono ?_; rintro e wz ⟨rfl, hbz⟩
      go_wp2
      go_ret
      exact ⟨rfl, ext_trans (ext_trans hbw6 hbr) hbz⟩
end Go.Proofs.Ytcnidhcdkbfpcaa

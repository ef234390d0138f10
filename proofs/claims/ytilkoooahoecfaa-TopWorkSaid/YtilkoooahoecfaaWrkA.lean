/- The law TopWork: its walk. -/
import Derived.Test.YtilkoooahoecfaaPgJ
import Derived.Test.YtilkoooahoecfaaPgH
import Derived.Test.YtilkoooahoecfaaPgI
import Derived.Test.YtilkoooahoecfaaWrkP
namespace Go.Bs
open Go.RowKit
/-- an empty row of the call's own, with a block -/
theorem OwnL.void {α : Type} {W : World} {base e sz B : Nat} {enc : α → List Value} (h : Blk W B e []) (hb : base ≤ B) : OwnL W base e sz enc (.slice (some ⟨B, 0, none⟩) 0 0) ([] : List α) :=
  ⟨by simp, .inr ⟨B, 0, #[], rfl, hb, h, Nat.le_refl _, by unfold maxLen; omega, by simp, by simp⟩⟩
end Go.Bs
namespace Go.Proofs.Ytilkoooahoecfaa
open Go.RowKit Go.Bs Go.Pg Go.Pl Go.Sort Go.Tp
def evR : Go.Yd.Rd := ⟨[⟨2, 3, 4, true⟩], 1⟩
theorem ev_buy : (Yd.buyR evR).1 = [0] ∧ (Yd.buyR evR).2.1 = 10 ∧ (Yd.buyR evR).2.2.2 = 0 := by decide +kernel
set_option maxRecDepth 100000 in
set_option maxHeartbeats 2000000 in
theorem eats_any (w : World) : Calls Try.prog 17 #[] w fun e w' => e = .returned (.bool true) ∧ Below w.heap.size w w' := by
  have hM := Blk.new w 118 [.int .i64 2, .int .i64 3, .int .i64 4, .bool true]
  have hx := ext_alloc w (.cells #[.int .i64 2, .int .i64 3, .int .i64 4, .bool true] 118)
  go_enter Try.func17, Try.ntmps17
  go_wp2_with fail
  change Blk (w.alloc (.cells #[.int .i64 2, .int .i64 3, .int .i64 4, .bool true] 118)) _ _ _ at hM
  generalize w.alloc (.cells #[.int .i64 2, .int .i64 3, .int .i64 4, .bool true] 118) = W1 at *
  have CB := Lib.hid (Yd.Buy_any evR (some ⟨w.heap.size, 0, none⟩) 1 1 W1 rfl (by omega) (by omega) (cells_of (fun _ => rfl) hM rfl))
  refine CB.out.mono ?_; rintro e W2 ⟨v, x, he, ⟨A, c, hv, -, -, hc, -⟩, -, hb⟩
  rw [ev_buy.2.1, ev_buy.2.2] at he
  rw [ev_buy.1] at hv hc
  subst he hv
  obtain ⟨b, off, rfl, -, c0⟩ := hc.at1 (show 0 < [(0 : Int)].length by decide) rfl
  simp only [Nat.add_zero] at c0
  have hbw := ext_trans hx hb
  clear CB hM hx hb hc
  go_wp2
  go_ret
  exact ⟨rfl, hbw⟩
set_option maxRecDepth 100000 in
set_option maxHeartbeats 10000000 in
theorem work_law (s : Sh) (p : ShP) (A : Option Addr) (n c : Nat) (l : List Int) (pe ev : Int) (w : World) (h : ShW w s p) (hn : l.length = n) (hm : n ≤ 9223372036854775807) (hd : Cells w A 1 encI l) (hpe : 0 ≤ pe ∧ pe ≤ 255) (hev : 0 ≤ ev ∧ ev ≤ 255) :
    Calls Try.prog 4 #[shV s p, .slice A n c, .int .u8 pe, .int .u8 ev] w fun e w' => e = .returned (.bool true) ∧ Below w.heap.size w w' := by
  have hb0 := ext_alloc w (.cells (shC s p).toArray 68)
  have hS := Blk.new w 68 (shC s p)
  have h0 := h.ext hb0
  have hd0 := hd.ext hb0
  have Hn := Lib.hid hn
  clear hd hn
  clear h
  unfold shV at *
  unfold shC at *
  go_enter Try.func4, Try.ntmps4
  go_upto_region 1 with fail
  change Blk (w.alloc (.cells #[.slice p.A s.acts.length p.cA, .slice p.R s.rest.length p.cR, .slice p.I s.ins.length p.cI, .slice p.O s.outs.length p.cO, .int .i64 s.cover, .int .i64 s.dull, .slice p.B s.before.length p.cB] 68)) _ _ _ at hS
  generalize w.alloc (.cells #[.slice p.A s.acts.length p.cA, .slice p.R s.rest.length p.cR, .slice p.I s.ins.length p.cI, .slice p.O s.outs.length p.cO, .int .i64 s.cover, .int .i64 s.dull, .slice p.B s.before.length p.cB] 68) = W0 at *
  have x0 : W0.cell? ⟨w.heap.size, 0, none⟩ = _ := hS.cell (i := 0) rfl
  have x1 : W0.cell? ⟨w.heap.size, 1, none⟩ = _ := hS.cell (i := 1) rfl
  have x2 : W0.cell? ⟨w.heap.size, 2, none⟩ = _ := hS.cell (i := 2) rfl
  have x3 : W0.cell? ⟨w.heap.size, 3, none⟩ = _ := hS.cell (i := 3) rfl
  have x4 : W0.cell? ⟨w.heap.size, 4, none⟩ = _ := hS.cell (i := 4) rfl
  have x5 : W0.cell? ⟨w.heap.size, 5, none⟩ = _ := hS.cell (i := 5) rfl
  have x6 : W0.cell? ⟨w.heap.size, 6, none⟩ = _ := hS.cell (i := 6) rfl
  go_wp2_with fail
  refine (Few_any s p W0 h0).mono ?_; rintro e W1 ⟨rfl, hb1⟩
  have hbw := ext_trans hb0 hb1
  cases hf : s.fewB
  · clear x0 x1 x2 x3 x4 x5 x6
    go_wp2_with fail
    refine (eats_any _).mono ?_; rintro e wz ⟨rfl, hbz⟩
    go_wp2
    go_ret
    exact ⟨rfl, ext_trans hbw hbz⟩
  have hm1 := (h0.few hf).ext hb1
  have h12 := (Sh.few_iff.1 hf).2.1
  have hS1 := hS.ext hb1
  have hd1 := hd0.ext hb1
  clear hb0 hb1 h0 hS hf hd0 x0 x1 x2 x3 x4 x5 x6
  have x0 : W1.cell? ⟨w.heap.size, 0, none⟩ = _ := hS1.cell (i := 0) rfl
  have x1 : W1.cell? ⟨w.heap.size, 1, none⟩ = _ := hS1.cell (i := 1) rfl
  have x2 : W1.cell? ⟨w.heap.size, 2, none⟩ = _ := hS1.cell (i := 2) rfl
  have x3 : W1.cell? ⟨w.heap.size, 3, none⟩ = _ := hS1.cell (i := 3) rfl
  have x4 : W1.cell? ⟨w.heap.size, 4, none⟩ = _ := hS1.cell (i := 4) rfl
  have x5 : W1.cell? ⟨w.heap.size, 5, none⟩ = _ := hS1.cell (i := 5) rfl
  have x6 : W1.cell? ⟨w.heap.size, 6, none⟩ = _ := hS1.cell (i := 6) rfl
  go_wp2_with fail
  refine (Right_any s p W1 hm1).mono ?_; rintro e W2 ⟨rfl, hb2⟩
  have hbw2 := ext_trans hbw hb2
  cases hok : s.okB
  · clear x0 x1 x2 x3 x4 x5 x6 hok
    go_wp2_with fail
    refine (eats_any _).mono ?_; rintro e wz ⟨rfl, hbz⟩
    go_wp2
    go_ret
    exact ⟨rfl, ext_trans hbw2 hbz⟩
  have Hok := Lib.hid (Sh.ok_of hok)
  have Hokb := Lib.hid hok
  have hm2 := hm1.ext hb2
  have hS2 := hS1.ext hb2
  have hd2 := hd1.ext hb2
  clear hbw hb2 hm1 hS1 hok hd1 x0 x1 x2 x3 x4 x5 x6
  have x0 : W2.cell? ⟨w.heap.size, 0, none⟩ = _ := hS2.cell (i := 0) rfl
  have x1 : W2.cell? ⟨w.heap.size, 1, none⟩ = _ := hS2.cell (i := 1) rfl
  have x2 : W2.cell? ⟨w.heap.size, 2, none⟩ = _ := hS2.cell (i := 2) rfl
  have x3 : W2.cell? ⟨w.heap.size, 3, none⟩ = _ := hS2.cell (i := 3) rfl
  have x4 : W2.cell? ⟨w.heap.size, 4, none⟩ = _ := hS2.cell (i := 4) rfl
  have x5 : W2.cell? ⟨w.heap.size, 5, none⟩ = _ := hS2.cell (i := 5) rfl
  have x6 : W2.cell? ⟨w.heap.size, 6, none⟩ = _ := hS2.cell (i := 6) rfl
  go_wp2_with fail
  refine (Order_any s p A n c l W2 hm2 Hn.out hm hd2).mono ?_; rintro e W3 ⟨rfl, hb3⟩
  have hbw3 := ext_trans hbw2 hb3
  cases ho : ordB s.acts.length l
  · clear x0 x1 x2 x3 x4 x5 x6 ho
    go_wp2_with fail
    refine (eats_any _).mono ?_; rintro e wz ⟨rfl, hbz⟩
    go_wp2
    go_ret
    exact ⟨rfl, ext_trans hbw3 hbz⟩
  have hm3 := hm2.ext hb3
  have hS3 := hS2.ext hb3
  have hd3 := hd2.ext hb3
  obtain ⟨k, rfl, hk1, hk2, hk3⟩ := ord_nat ho
  have hask : askE s (toI k) = 0 := by unfold askE; rw [Hokb.out, ho]; rfl
  have Hask := Lib.hid hask
  have hkn : k.length = n := by rw [← toI_len k]; exact Hn.out
  have hna : n = s.acts.length := by omega
  have hn8 : n ≤ 8 := by have := Hok.out.n8; omega
  have Hna := Lib.hid hna
  clear hna
  clear hask ho hbw2 hb3 hm2 hS2 hd2 x0 x1 x2 x3 x4 x5 x6
  have x0 : W3.cell? ⟨w.heap.size, 0, none⟩ = _ := hS3.cell (i := 0) rfl
  have x1 : W3.cell? ⟨w.heap.size, 1, none⟩ = _ := hS3.cell (i := 1) rfl
  have x2 : W3.cell? ⟨w.heap.size, 2, none⟩ = _ := hS3.cell (i := 2) rfl
  have x3 : W3.cell? ⟨w.heap.size, 3, none⟩ = _ := hS3.cell (i := 3) rfl
  have x4 : W3.cell? ⟨w.heap.size, 4, none⟩ = _ := hS3.cell (i := 4) rfl
  have x5 : W3.cell? ⟨w.heap.size, 5, none⟩ = _ := hS3.cell (i := 5) rfl
  have x6 : W3.cell? ⟨w.heap.size, 6, none⟩ = _ := hS3.cell (i := 6) rfl
  have Hr16 := Lib.hid Hok.out.r16
  by_cases hrz : s.rest.length = 0
  · have hrz' : ((s.rest.length : Int) == 0) = true := by rw [beq_iff_eq]; omega
    clear hrz
    go_wp2_with fail
    refine (eats_any _).mono ?_; rintro e wz ⟨rfl, hbz⟩
    go_wp2
    go_ret
    exact ⟨rfl, ext_trans hbw3 hbz⟩
  have hrz' : ((s.rest.length : Int) == 0) = false := by rw [beq_eq_false_iff_ne]; omega
  go_upto_region 3 with fail
  clear x0 x1 x2 x3 x4 x5 x6
  have x0 : W3.cell? ⟨w.heap.size, 0, none⟩ = _ := hS3.cell (i := 0) rfl
  have x1 : W3.cell? ⟨w.heap.size, 1, none⟩ = _ := hS3.cell (i := 1) rfl
  have x2 : W3.cell? ⟨w.heap.size, 2, none⟩ = _ := hS3.cell (i := 2) rfl
  have x3 : W3.cell? ⟨w.heap.size, 3, none⟩ = _ := hS3.cell (i := 3) rfl
  have x4 : W3.cell? ⟨w.heap.size, 4, none⟩ = _ := hS3.cell (i := 4) rfl
  have x5 : W3.cell? ⟨w.heap.size, 5, none⟩ = _ := hS3.cell (i := 5) rfl
  have x6 : W3.cell? ⟨w.heap.size, 6, none⟩ = _ := hS3.cell (i := 6) rfl
  go_wp2_with fail
  refine (Show_any s p W3 hm3).mono ?_; rintro e W4 ⟨⟨p1, rfl, hm4⟩, hb4⟩
  have hd4 := hd3.ext hb4
  clear x0 x1 x2 x3 x4 x5 x6
  have hE := Blk.new W4 3 []
  have hxE := ext_alloc W4 (.cells #[] 3)
  have ho := OwnL.void (sz := 1) (enc := encI) (base := W4.heap.size) hE (Nat.le_refl _)
  go_wp2_with (at_builtin; refine app_ints 59 3 et23 rfl _ _ rfl W4.heap.size _ [] rfl ho A n c (toI k) Hn.out rfl (hd4.ext hxE) (by simp; omega) (by have := hxE.size; omega) ?_; intro v5 W5 ho5 hb5 _ _; rw [List.nil_append] at ho5; obtain ⟨A5, c5, e5, -, -, hd5⟩ := ho5.cells encI_len; subst e5; rw [Hn.out])
  have hb45 : Below W4.heap.size W4 W5 := hxE.trans hb5
  have CSh := Lib.hid (Sheet_any s p1 A5 n c5 (toI k) W5 (hm4.ext hb45) Hn.out (by omega) hd5)
  go_wp2_with fail
  refine CSh.out.mono ?_; rintro e W6 ⟨⟨v, x, z, rfl, hz, -, hz1⟩, hb6⟩
  have hb46 := ext_trans hb4 (ext_trans hb45 hb6)
  have hm6 := hm3.ext hb46
  have hS6 := hS3.ext hb46
  have hd6 := hd3.ext hb46
  have hbw6 := ext_trans hbw3 hb46
  rw [toI_toNat] at hz1
  unfold rightE at hz
  rw [if_pos Hask.out, toI_toNat] at hz
  clear hm3 hS3 hd3 hbw3 hb4 hb5 hb6 hb45 hb46 hm4 hd4 hd5 CSh ho5 ho hE hxE
  by_cases hft : (s.fault k).2 = 0
  rotate_left
  · rw [if_neg hft] at hz
    subst hz
    clear hft hz1
    go_wp2_with fail
    refine (eats_any _).mono ?_; rintro e wz ⟨rfl, hbz⟩
    go_wp2
    go_ret
    exact ⟨rfl, ext_trans hbw6 hbz⟩
  rw [if_pos hft] at hz
  subst hz
  obtain ⟨⟨A7, c7, rfl, -, -, hd7, -⟩, rfl⟩ := hz1 rfl
  have hend := sheet_min Hok.out k
  have hst : (s.sheet k).1.length = n := by
    have hk0 : 0 < k.length := by rw [hk1]; exact Hok.out.n1
    obtain ⟨E, e1, -⟩ := Sh.sheet_facts Hok.out hk0 hk2
    rw [e1, hkn]
  rw [hst]
  have Hend := Lib.hid hend
  generalize (s.sheet k).2 = en at *
  clear hst hend hft hd7 hz1
  have Hk2 := Lib.hid hk2
  have Hkn := Lib.hid hkn
  clear hk2 hkn hk3 hk1 Hask
  have hnr0 : (0 : Int) < (s.rest.length : Int) := by omega
  obtain ⟨pn, hpn, hpl⟩ : ∃ q : Nat, pe.tmod (s.rest.length : Int) = q ∧ q < s.rest.length := by
    have h1 := Int.tmod_lt_of_pos pe hnr0
    have h2 := Int.tmod_nonneg (s.rest.length : Int) hpe.1
    exact ⟨(pe.tmod (s.rest.length : Int)).toNat, by omega, by omega⟩
  have hpn' : pe % (s.rest.length : Int) = (pn : Int) := by rw [← Int.tmod_eq_emod_of_nonneg hpe.1]; exact hpn
  obtain ⟨dn, hdn, hdl⟩ : ∃ q : Nat, ev.tmod 6 = q ∧ q < 6 := by
    have h1 := Int.tmod_lt_of_pos ev (show (0 : Int) < 6 by omega)
    have h2 := Int.tmod_nonneg 6 hev.1
    exact ⟨(ev.tmod 6).toNat, by omega, by omega⟩
  have hdn' : ev % 6 = (dn : Int) := by rw [← Int.tmod_eq_emod_of_nonneg hev.1]; exact hdn
  have hp16 : pn < 16 := by have := Hr16.out; omega
  have x0 : W6.cell? ⟨w.heap.size, 0, none⟩ = _ := hS6.cell (i := 0) rfl
  have x1 : W6.cell? ⟨w.heap.size, 1, none⟩ = _ := hS6.cell (i := 1) rfl
  have x2 : W6.cell? ⟨w.heap.size, 2, none⟩ = _ := hS6.cell (i := 2) rfl
  have x3 : W6.cell? ⟨w.heap.size, 3, none⟩ = _ := hS6.cell (i := 3) rfl
  have x4 : W6.cell? ⟨w.heap.size, 4, none⟩ = _ := hS6.cell (i := 4) rfl
  have x5 : W6.cell? ⟨w.heap.size, 5, none⟩ = _ := hS6.cell (i := 5) rfl
  have x6 : W6.cell? ⟨w.heap.size, 6, none⟩ = _ := hS6.cell (i := 6) rfl
  go_upto_region 7 with fail
  clear x0 x1 x2 x3 x4 x5 x6
  have HS6 := Lib.hid hS6
  have Hm6 := Lib.hid hm6
  have Hd6 := Lib.hid hd6
  have Hbw6 := Lib.hid hbw6
  clear hpn hpn' hdn hdn' hnr0 hrz' hrz hS6 hm6 hd6 hbw6
  have hd16 : (1 : Int) + dn = ((dn + 1 : Nat) : Int) := by omega
  rw [hd16]
  clear hd16
  obtain ⟨dd, hdd⟩ : ∃ q, q = dn + 1 := ⟨_, rfl⟩
  rw [← hdd]
  have hdd6 : 1 ≤ dd ∧ dd ≤ 6 := by omega
  clear hdd hdl
  go_upto_block 0 with fail
  go_wp2
  go_loopw [14, 15] (fun mi t wr => ∃ i : Nat, mi = .int .i64 (wmin s pn (k.take i)) ∧ t = .int .i64 i ∧ i ≤ n ∧ Below W6.heap.size W6 wr) (fun _ t _ => n - (intOf t).toNat)
  case atStart => exact ⟨0, rfl, rfl, by omega, Below.refl _ _⟩
  case round =>
    obtain ⟨i, rfl, rfl, hi, hbr⟩ := hrel
    by_cases hlt : i < n
    · have hlt' : (i : Int) < (n : Int) := by omega
      have hik : i < k.length := by rw [Hkn.out]; exact hlt
      have ha : k[i] < s.acts.length := Hk2.out _ (List.getElem_mem hik)
      have hsn : wmin s pn (k.take (i + 1)) = wmin s pn (k.take i) + wk1 s pn k[i] := by rw [List.take_succ_eq_append_getElem hik, wmin_snoc]
      have hbdm := wmin_bd Hok.out pn (k.take i) (fun c hc => Hk2.out c (List.mem_of_mem_take hc))
      have hbm : 0 ≤ wmin s pn (k.take i) ∧ wmin s pn (k.take i) ≤ 480 := by
        have h1 := hbdm.2.2
        rw [List.length_take] at h1
        omega
      have Hsn := Lib.hid hsn
      have hac := Hok.out.act ha
      have hmn := hac.min
      have hc1 := hac.c1
      clear hsn hbdm
      go_upto_region 11 with fail
      refine Dr.wp_region_plan 16 [] (.q [0, 1, 2, 3, 4, 5, 6, 7, 8, 9, 10, 11, 12, 13, 14, 15] .done) (by kernel_rfl) (by kernel_rfl) ?_
      have hbd := hbr.drew
      clear hbr
      generalize World.drew _ = W at *
      have hS := HS6.out.ext hbd
      have hm := Hm6.out.ext hbd
      have hd := Hd6.out.ext hbd
      obtain ⟨ba, oa, C, cz, hA, hbb, c0, c1, c2, c3, c4, hcs⟩ := hm.at ha
      obtain ⟨bC, oC, rfl, -, e0⟩ := hcs.at1 (k := 0) (by omega) rfl
      simp only [Nat.add_zero] at e0
      obtain ⟨bl, ol, hAl, -, cl⟩ := hd.at1 (k := i) (by rw [toI_len]; exact hik) rfl
      rw [toI_get hik] at cl
      rw [hA] at hS
      subst hAl
      have hcst : (s.act k[i]).casts[0]'(by omega) = s.cast k[i] := by unfold Sh.cast; simp [show 0 < (s.act k[i]).casts.length by omega]
      have hc16 : s.cast k[i] < 65536 := by rw [← hcst]; exact (hm.bit ha).2.2 _ (List.getElem_mem _)
      rw [hcst] at e0
      have hcb := bit16 (s.cast k[i]) pn hc16
      have hk0 : (0 : Int) ≤ (k[i] : Int) := by omega
      have hka : (k[i] : Int) < (s.acts.length : Int) := by omega
      have Hw1 := Lib.hid (show wk1 s pn k[i] = if (s.cast k[i]).testBit pn then (s.act k[i]).min else 0 from rfl)
      have hln : 0 < (s.act k[i]).casts.length := by omega
      have hln' : (0 : Int) < ((s.act k[i]).casts.length : Int) := by omega
      clear hcst hA hm hd hcs hac c1 c2 c4
      generalize k[i] = a at *
      have q0 := Dr.cell0 (hS.cell (i := 0) rfl)
      have q1 := Dr.cell0 cl
      have q2 := Dr.cell0 c3
      have q3 := Dr.cell0 e0
      have hpn0 : (0 : Int) ≤ (pn : Int) := by omega
      cases hb : (s.cast a).testBit pn with
      | true =>
        rw [hb, if_pos rfl] at hcb
        have Hs2 := Lib.hid (show wmin s pn (k.take (i + 1)) = wmin s pn (k.take i) + (s.act a).min by rw [Hsn.out, Hw1.out, hb]; rfl)
        clear hb Hsn Hw1
        generalize s.cast a = ca at *
        generalize wmin s pn (k.take i) = y at *
        with_reducible refine Dr.plan_q (l := [_, _, _, _, _, _, _, _, _, _, _, _, _, _, _, _]) (by with_unfolding_all exact rfl) (fun K hK => ?_)
        iterate 16 (go_big_quiet_step (fail))
        refine wpQuiet_nil (hK _ ?_); clear hK K
        clear q0 q1 q2 q3
        refine Dr.plan_end rfl ?_
        go_upto_region 12 with fail
        refine Dr.wp_region_plan 12 [] (.q [0, 1, 2, 3, 4, 5, 6, 7, 8, 9, 10, 11] .done) (by kernel_rfl) (by kernel_rfl) ?_
        have hbd2 := hbd.drew
        have q0 := Dr.cell0 (w := W.drew) (show W.drew.cell? _ = _ from hS.cell (i := 0) rfl)
        have q1 := Dr.cell0 (w := W.drew) (show W.drew.cell? _ = _ from cl)
        have q2 := Dr.cell0 (w := W.drew) (show W.drew.cell? _ = _ from c0)
        clear hbd hS cl c0 c3 e0 hcb
        generalize World.drew W = V at *
        generalize (s.act a).min = mn at *
        with_reducible refine Dr.plan_q (l := [_, _, _, _, _, _, _, _, _, _, _, _]) (by with_unfolding_all exact rfl) (fun K hK => ?_)
        iterate 12 (go_big_quiet_step (fail))
        refine wpQuiet_nil (hK _ ?_); clear hK K
        clear q0 q1 q2
        refine Dr.plan_end rfl ?_
        go_wp2
        go_roundw
        case rel => exact ⟨i + 1, by rw [Hs2.out], by go_num, by omega, hbd2⟩
        case measure => simp [intOf]; omega
      | false =>
        rw [hb, if_neg (by simp)] at hcb
        have Hs2 := Lib.hid (show wmin s pn (k.take (i + 1)) = wmin s pn (k.take i) by rw [Hsn.out, Hw1.out, hb]; simp)
        clear hb Hsn Hw1
        generalize s.cast a = ca at *
        with_reducible refine Dr.plan_q (l := [_, _, _, _, _, _, _, _, _, _, _, _, _, _, _, _]) (by with_unfolding_all exact rfl) (fun K hK => ?_)
        iterate 16 (go_big_quiet_step (fail))
        refine wpQuiet_nil (hK _ ?_); clear hK K
        clear q0 q1 q2 q3 hS cl c0 c3 e0 hcb
        refine Dr.plan_end rfl ?_
        go_wp2
        go_roundw
        case rel => exact ⟨i + 1, by rw [Hs2.out], by go_num, by omega, hbd⟩
        case measure => simp [intOf]; omega
    · obtain rfl : i = n := by omega
      rw [List.take_of_length_le (by rw [Hkn.out]; exact Nat.le_refl _)]
      have hbm := wmin_bd Hok.out pn k Hk2.out
      have hb1 : 0 ≤ wmin s pn k ∧ wmin s pn k ≤ 480 := by have h1 := hbm.2.2; have := Hkn.out; omega
      have hb2 : ¬ en < wmin s pn k := by have h1 := hbm.2.1; have := Hend.out; omega
      have hbf := ext_trans Hbw6.out hbr
      clear hbm hbr HS6 Hm6 Hd6 Hbw6 Hend Hk2 Hkn Hna Hok Hokb
      generalize wmin s pn k = x at *
      generalize wr = W7 at *
      have hne : ((i : Int) != (i : Int)) = false := by simp
      go_upto_block 2 with fail
      go_wp2
      go_loopw [16, 17] (fun v t wr => ∃ j : Nat, t = .int .i64 j ∧ j ≤ dd ∧ OwnL wr W7.heap.size 3 1 encI v (List.replicate j x) ∧ Below W7.heap.size W7 wr) (fun _ t _ => dd - (intOf t).toNat)
      case atStart => exact ⟨0, rfl, by omega, OwnL.nil, Below.refl _ _⟩
      case round =>
        obtain ⟨j, rfl, hj, ho, hbr⟩ := hrel
        by_cases hlj : j < dd
        · have hlj' : (j : Int) < (dd : Int) := by omega
          have nw := Blk.new wr 3 [.int .i64 x]
          have hs1 := hbr.size
          have hrl : (List.replicate j x).length ≤ 1000000 := by rw [List.length_replicate]; omega
          go_wp2_with (at_builtin; refine app1 encI 59 3 1 8 et23 (by decide) (by decide) encI_len encI_one rfl _ _ rfl W7.heap.size _ (List.replicate j x) rfl (ho.alloc _) wr.heap.size rfl x (encI_cell (nw.cell rfl)) hrl (by simp; omega) ?_; intro g' cap' w' hown' hb3 _ _)
          rw [show List.replicate j x ++ [x] = List.replicate (j + 1) x from (List.replicate_succ').symm, List.length_replicate] at hown'
          have Hown := Lib.hid hown'
          have hb4 := (hbr.alloc hs1 _).trans hb3
          clear hb3 nw ho hown' hrl
          go_wp2
          go_roundw
          case rel => exact ⟨j + 1, by go_num, by omega, Hown.out, hb4⟩
          case measure => simp [intOf]; omega
        · obtain rfl : j = dd := by omega
          obtain ⟨A8, c8, rfl, hlc8, -, hc8⟩ := ho.cells encI_len
          rw [List.length_replicate] at hlc8 ⊢
          have hbf2 := ext_trans hbf hbr
          have Hrl := Lib.hid (List.length_replicate (n := j) (a := x))
          have Hno := Lib.hid (weary_none (x := x) hb1 (n := j) hdd6.2)
          have Hla := Lib.hid (fun (h1 : 1 ≤ x) => weary_last (x := x) ⟨h1, hb1.2⟩ (n := j) hdd6.2 hdd6.1)
          have hm1 := mul_le (x := x) hb1.1 hdd6.2
          have hm0 := mul_le (x := x) hb1.1 (Nat.zero_le j)
          obtain ⟨dx, hdx⟩ : ∃ q, (j : Int) * x = q := ⟨_, rfl⟩
          rw [hdx] at Hno Hla
          have hdb : 0 ≤ dx ∧ dx ≤ 2880 := by omega
          have hdx2 : wrap64 ((j : Int) * x) = dx := by rw [hdx]; unfold wrap64; omega
          have Hx1 := Lib.hid (fun (h1 : 1 ≤ x) => show 1 ≤ dx by
            have := mul_le (x := x) hb1.1 hdd6.1
            omega)
          clear hm1 hm0 ho hbf hbr hlj hj
          generalize hLe : List.replicate j x = L at *
          clear hLe
          generalize wr = W8 at *
          have hE := Blk.new W8 3 []
          have hxE := ext_alloc W8 (.cells #[] 3)
          have ho := OwnL.void (sz := 1) (enc := encI) (base := W8.heap.size) hE (Nat.le_refl _)
          go_wp2_with (at_builtin; refine app_ints 59 3 et23 rfl _ _ rfl W8.heap.size _ [] rfl ho A8 j c8 L Hrl.out rfl (hc8.ext hxE) (by simp; omega) (by have := hxE.size; omega) ?_; intro v9 W9 ho9 hb9 _ _; rw [List.nil_append] at ho9; obtain ⟨A9, c9, e9, hlc9, -, hc9⟩ := ho9.cells encI_len; subst e9; rw [Hrl.out]; rw [Hrl.out] at hlc9)
          have hb89 : Below W8.heap.size W8 W9 := hxE.trans hb9
          have CW := Lib.hid (Yd.weary_any x dx A9 j c9 L W9 Hrl.out hlc9 hc9)
          rw [Hno.out] at CW
          unfold Go.Proofs.Ytilkoooahoecfaa.Yd.tupW at CW
          simp only at CW
          clear hxE hE ho hb9 ho9 hc9 hlc9
          go_wp2_with fail
          refine CW.out.mono ?_; rintro e W10 ⟨rfl, hb10⟩
          have hb810 := ext_trans hb89 hb10
          have hc10 := hc8.ext hb810
          have hbf3 := ext_trans hbf2 hb810
          clear CW hb89 hb10 hb810 hc8 hbf2
          have h77 : ((7 : Int) != 7) = false := rfl
          by_cases hx0 : x = 0
          · have hx0' : (x == 0) = true := by rw [beq_iff_eq]; exact hx0
            clear hx0
            go_wp2_with fail
            refine (eats_any _).mono ?_; rintro e wz ⟨rfl, hbz⟩
            go_wp2
            go_ret
            exact ⟨rfl, ext_trans hbf3 hbz⟩
          have hx0' : (x == 0) = false := by rw [beq_eq_false_iff_ne]; exact hx0
          have hx1 : 1 ≤ x := by omega
          have hd1 := Hx1.out hx1
          have Hl2 := Lib.hid (Hla.out hx1)
          clear hx0 Hla Hx1
          have hE := Blk.new W10 3 []
          have hxE := ext_alloc W10 (.cells #[] 3)
          have ho := OwnL.void (sz := 1) (enc := encI) (base := W10.heap.size) hE (Nat.le_refl _)
          go_wp2_with (at_builtin; refine app_ints 59 3 et23 rfl _ _ rfl W10.heap.size _ [] rfl ho A8 j c8 L Hrl.out rfl (hc10.ext hxE) (by simp; omega) (by have := hxE.size; omega) ?_; intro v9 W11 ho9 hb9 _ _; rw [List.nil_append] at ho9; obtain ⟨A9, c9, e9, hlc9, -, hc9⟩ := ho9.cells encI_len; subst e9; rw [Hrl.out]; rw [Hrl.out] at hlc9)
          have hb89 : Below W10.heap.size W10 W11 := hxE.trans hb9
          have CW := Lib.hid (Yd.weary_any x (dx - 1) A9 j c9 L W11 Hrl.out hlc9 hc9)
          rw [Hl2.out] at CW
          unfold Go.Proofs.Ytilkoooahoecfaa.Yd.tupW at CW
          simp only at CW
          clear hxE hE ho hb9 ho9 hc9 hlc9
          go_wp2_with fail
          refine CW.out.mono ?_; rintro e W12 ⟨rfl, hb10⟩
          have hbf4 := ext_trans hbf3 (ext_trans hb89 hb10)
          have hee : (((j : Int) - 1) == ((j : Int) - 1)) = true := by simp
          clear CW hb89 hb10 hc10 hbf3
          go_wp2_with fail
          refine (eats_any _).mono ?_; rintro e wz ⟨rfl, hbz⟩
          go_wp2
          go_ret
          exact ⟨rfl, ext_trans hbf4 hbz⟩
end Go.Proofs.Ytilkoooahoecfaa

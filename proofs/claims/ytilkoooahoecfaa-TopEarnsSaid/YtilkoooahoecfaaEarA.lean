/- The walk of the law TopEarns. (Printed by mk_earn.py.) -/
import Derived.Test.YtilkoooahoecfaaErnF
import Derived.Test.YtilkoooahoecfaaErnL
import Derived.Test.YtilkoooahoecfaaErnM
import Derived.Test.YtilkoooahoecfaaSetF
namespace Go.Proofs.Ytilkoooahoecfaa.Er
open Go.RowKit Go.Bs Go.Pl Go.Sort Go.Er Go.Pu
/-- the week that is being made: i countries; B8: its box; BC: the contract -/
structure LwJ (t : TrV) (l : List StE) (B8 BC i : Nat) (w0 W : World) : Prop where
  bl : Below B8 w0 W
  sz : B8 < W.heap.size
  bo : ∃ v, Blk W B8 45 [v, .int .i64 0, .slice (some ⟨BC, 0, none⟩) 1 1] ∧ OwnL W (B8 + 1) 55 4 Cty.enc v ((l.take i).map (ctyE t))
theorem LwJ.ext {t : TrV} {l : List StE} {B8 BC i : Nat} {w0 W W' : World} (h : LwJ t l B8 BC i w0 W) (hb : Below W.heap.size W W') : LwJ t l B8 BC i w0 W' := by
  obtain ⟨v, h1, h2⟩ := h.bo
  have hs := h.sz
  have hs2 := hb.size
  exact ⟨h.bl.trans (hb.mono (by omega)), by omega, v, h1.ext hb, h2.ext hb⟩
theorem LwJ.push {t : TrV} {l : List StE} {B8 BC i : Nat} {w0 V V3 V9 : World} {v v9 : Value} {y : Cty} (hJ : LwJ t l B8 BC i w0 V) (hb : Below V.heap.size V V3) (h8 : Blk V B8 45 [v, .int .i64 0, .slice (some ⟨BC, 0, none⟩) 1 1])
    (hz : (l.take (i + 1)).map (ctyE t) = (l.take i).map (ctyE t) ++ [y]) (hown : OwnL V9 (B8 + 1) 55 4 Cty.enc v9 ((l.take i).map (ctyE t) ++ [y])) (hbl : Below (B8 + 1) V3 V9) : LwJ t l B8 BC (i + 1) w0 (V9.setCell ⟨B8, 0, none⟩ v9) := by
  have hs := hJ.sz
  have hs3 := hb.size
  have hs9 := hbl.size
  refine ⟨?_, by simp; omega, v9, ?_, ?_⟩
  · exact ((hJ.bl.trans (hb.mono (by omega))).trans (hbl.mono (by omega))).setCell (by simp) _
  · exact ((h8.ext hb).under hbl (by omega)).set 0 v9
  · rw [hz]
    exact hown.setCell (by simp) _
set_option maxRecDepth 100000 in
set_option maxHeartbeats 8000000 in
theorem earns_law (t : TrV) (l : List StE) (S : Option Addr) (m c : Nat) (w : World) (hM : TrM w t) (hS : Cells w S 3 StE.enc l) (hm : l.length = m) (hm9 : m ≤ 9223372036854775807) :
    Calls Try.prog 3 #[t.val, .slice S m c] w fun e w' => e = .returned (.bool true) ∧ Below w.heap.size w w' := by
  have CDr := Lib.hid (fun V => drives_any V)
  have hx := ext_alloc w (.cells t.cells.toArray 25)
  have hT := Blk.new w 25 t.cells
  have HM := Lib.hid hM
  have HS := Lib.hid hS
  have Hm := Lib.hid hm
  have C1 := Lib.hid (fun V (hV : Below w.heap.size w V) => Small_any t V (hM.ext hV))
  have C2 := Lib.hid (fun V (hV : Below w.heap.size w V) => Right_any t V (hM.ext hV))
  have C3 := Lib.hid (fun V (hV : Below w.heap.size w V) => Near_any S m c l V hm hm9 (hS.ext hV))
  have C4 := Lib.hid (fun V (hV : Below w.heap.size w V) (hs : TrSm t) => Tour_any t V (hM.ext hV) hs)
  clear hM hS hm
  unfold TrV.val TrV.cells at *
  go_enter Try.func3, Try.ntmps3
  go_upto_region 1 with fail
  change Blk (w.alloc (.cells #[.int .i64 t.days, .int .i64 t.shift, .int .i64 t.size, .slice t.A t.tw.length t.ca, .slice t.B t.lg.length t.cb] 25)) _ _ _ at hT
  generalize (w.alloc (.cells #[.int .i64 t.days, .int .i64 t.shift, .int .i64 t.size, .slice t.A t.tw.length t.ca, .slice t.B t.lg.length t.cb] 25)) = W1 at *
  have b0 : W1.cell? ⟨w.heap.size, 0, none⟩ = _ := hT.cell (i := 0) rfl
  have b1 : W1.cell? ⟨w.heap.size, 1, none⟩ = _ := hT.cell (i := 1) rfl
  have b2 : W1.cell? ⟨w.heap.size, 2, none⟩ = _ := hT.cell (i := 2) rfl
  have b3 : W1.cell? ⟨w.heap.size, 3, none⟩ = _ := hT.cell (i := 3) rfl
  have b4 : W1.cell? ⟨w.heap.size, 4, none⟩ = _ := hT.cell (i := 4) rfl
  go_wp2_with fail
  refine (C1.out _ hx).mono ?_; rintro e W2 ⟨q, rfl, -, hb2⟩
  have hx2 := ext_trans hx hb2
  have hT2 := hT.ext hb2
  clear b0 b1 b2 b3 b4 hT hx hb2 C1
  cases q
  · go_wp2_with fail
    refine (CDr.out _).mono ?_; rintro e W9 ⟨rfl, hb9⟩
    go_wp2
    go_ret
    exact ⟨rfl, ext_trans hx2 hb9⟩
  have b0 : W2.cell? ⟨w.heap.size, 0, none⟩ = _ := hT2.cell (i := 0) rfl
  have b1 : W2.cell? ⟨w.heap.size, 1, none⟩ = _ := hT2.cell (i := 1) rfl
  have b2 : W2.cell? ⟨w.heap.size, 2, none⟩ = _ := hT2.cell (i := 2) rfl
  have b3 : W2.cell? ⟨w.heap.size, 3, none⟩ = _ := hT2.cell (i := 3) rfl
  have b4 : W2.cell? ⟨w.heap.size, 4, none⟩ = _ := hT2.cell (i := 4) rfl
  go_wp2_with fail
  refine (C2.out _ hx2).mono ?_; rintro e W3 ⟨q, rfl, hq, hb3⟩
  have Hok := Lib.hid hq
  have hx3 := ext_trans hx2 hb3
  have hT3 := hT2.ext hb3
  clear b0 b1 b2 b3 b4 hT2 hx2 hb3 C2 hq
  cases q
  · go_wp2_with fail
    refine (CDr.out _).mono ?_; rintro e W9 ⟨rfl, hb9⟩
    go_wp2
    go_ret
    exact ⟨rfl, ext_trans hx3 hb9⟩
  have hok := Hok.out (by trivial)
  by_cases h1 : m < 1
  · have h1' : (m : Int) < 1 := by omega
    go_wp2_with fail
    refine (CDr.out _).mono ?_; rintro e W9 ⟨rfl, hb9⟩
    go_wp2
    go_ret
    exact ⟨rfl, ext_trans hx3 hb9⟩
  have h1' : ¬ (m : Int) < 1 := by omega
  by_cases h8 : 8 < m
  · have h8' : (8 : Int) < (m : Int) := by omega
    go_wp2_with fail
    refine (CDr.out _).mono ?_; rintro e W9 ⟨rfl, hb9⟩
    go_wp2
    go_ret
    exact ⟨rfl, ext_trans hx3 hb9⟩
  have h8' : ¬ (8 : Int) < (m : Int) := by omega
  go_wp2_with fail
  refine (C3.out _ hx3).mono ?_; rintro e W4 ⟨q, rfl, hq, hb4⟩
  have Hnr := Lib.hid hq
  have hx4 := ext_trans hx3 hb4
  have hT4 := hT3.ext hb4
  clear hT3 hx3 hb4 C3 hq
  cases q
  · go_wp2_with fail
    refine (CDr.out _).mono ?_; rintro e W9 ⟨rfl, hb9⟩
    go_wp2
    go_ret
    exact ⟨rfl, ext_trans hx4 hb9⟩
  have b0 : W4.cell? ⟨w.heap.size, 0, none⟩ = _ := hT4.cell (i := 0) rfl
  have b1 : W4.cell? ⟨w.heap.size, 1, none⟩ = _ := hT4.cell (i := 1) rfl
  have b2 : W4.cell? ⟨w.heap.size, 2, none⟩ = _ := hT4.cell (i := 2) rfl
  have b3 : W4.cell? ⟨w.heap.size, 3, none⟩ = _ := hT4.cell (i := 3) rfl
  have b4 : W4.cell? ⟨w.heap.size, 4, none⟩ = _ := hT4.cell (i := 4) rfl
  go_wp2_with fail
  refine (C4.out _ hx4 hok.sm).mono ?_; rintro e W5 ⟨t', rfl, hM5, hE5, hca5, hb5⟩
  have hx5 := ext_trans hx4 hb5
  have hT5 := hT4.ext hb5
  clear b0 b1 b2 b3 b4 hT4 hx4 hb5 C4
  have hok5 := hE5.ok hok
  have C5 := Lib.hid (fun V (hV : Below w.heap.size w V) => Season_any S m c l V Hm.out (by omega) (HS.out.ext hV))
  have C6 := Lib.hid (fun V (hV : Below W5.heap.size W5 V) A n c' (hA : Cells V A 3 StE.enc l) (hn : l.length = n) (hc : n ≤ c') => Profit_any t' l A n c' V (hM5.ext hV) hok5 hca5 hA hn (by have := Hm.out; omega) hc (fun s hs => Hnr.out (by trivial) s hs))
  have C7 := Lib.hid (fun V (hV : Below W5.heap.size W5 V) k d (hk : 1 ≤ k ∧ k < t'.tw.length) (hd : 0 ≤ d ∧ d ≤ t'.days - 1) => Day_any t' k d V (hM5.ext hV) hok5 hca5 hk hd)
  have HE := Lib.hid hE5
  clear hM5 hca5 hok5 hE5
  have hx6 := ext_alloc W5 (.cells t'.cells.toArray 33)
  have hP := Blk.new W5 33 t'.cells
  unfold TrV.val TrV.cells at *
  go_upto_region 4 with fail
  change Blk (W5.alloc (.cells #[.int .i64 t'.days, .int .i64 t'.shift, .int .i64 t'.size, .slice t'.A t'.tw.length t'.ca, .slice t'.B t'.lg.length t'.cb] 33)) _ _ _ at hP
  change Below _ W5 (W5.alloc (.cells #[.int .i64 t'.days, .int .i64 t'.shift, .int .i64 t'.size, .slice t'.A t'.tw.length t'.ca, .slice t'.B t'.lg.length t'.cb] 33)) at hx6
  have hP5 := hP.lt
  generalize hW6 : (W5.alloc (.cells #[.int .i64 t'.days, .int .i64 t'.shift, .int .i64 t'.size, .slice t'.A t'.tw.length t'.ca, .slice t'.B t'.lg.length t'.cb] 33)) = W6 at *
  have hx6w := ext_trans hx5 hx6
  have hT6 := hT5.ext hx6
  have hX5 : w.heap.size < W5.heap.size := hT5.lt
  clear hT5 hW6
  refine Dr.wp_region_plan 9 [] (.q [0, 1] (.e1 2 (.e1 3 (.q [4, 5, 6, 7, 8] .done)))) (by kernel_rfl) (by kernel_rfl) ?_
  have hbd := hx6.drew
  have hbw := hx6w.drew
  have hPd := hP.drew
  have hTd := hT6.drew
  clear hP hT6 hx6 hx6w hP5
  generalize World.drew W6 = V at *
  have q0 := Dr.cell0 (hPd.cell (i := 0) rfl)
  have q1 := Dr.cell0 (hPd.cell (i := 1) rfl)
  have q2 := Dr.cell0 (hPd.cell (i := 2) rfl)
  have q3 := Dr.cell0 (hPd.cell (i := 3) rfl)
  have q4 := Dr.cell0 (hPd.cell (i := 4) rfl)
  with_reducible refine Dr.plan_q (l := [_, _]) (by with_unfolding_all exact rfl) (fun K hK => ?_)
  iterate 2 (go_big_quiet_step (fail))
  refine wpQuiet_nil (hK _ ?_); clear hK K
  clear q0 q1 q2 q3 q4
  refine Dr.plan_e rfl (by rfl) (fun K hK => ?_)
  go_wp2_with fail
  refine (C5.out _ hbw).mono ?_; rintro e V1 ⟨u1, rfl, hu1, hb1⟩
  refine hK _ _ (.of hb1) ?_; clear hK K C5
  obtain ⟨A2, c2, rfl, hle2, -, hS2⟩ := hu1.cells StE.len
  rw [Hm.out] at hle2 ⊢
  refine Dr.plan_e rfl (by rfl) (fun K hK => ?_)
  go_wp2_with fail
  refine (C6.out _ (ext_trans hbd hb1) A2 m c2 hS2 Hm.out hle2).mono ?_; rintro e V2 ⟨⟨p, k, rfl, hpk⟩, hb2⟩
  refine hK _ _ (.of hb2) ?_; clear hK K C6
  have hb7 := ext_trans (ext_trans hbd hb1) hb2
  have hbw7 := ext_trans (ext_trans hbw hb1) hb2
  have hP7 := (hPd.ext hb1).ext hb2
  have hT7 := (hTd.ext hb1).ext hb2
  clear hbd hbw hPd hTd hu1 hS2 hb1 hb2
  with_reducible refine Dr.plan_q (l := [_, _, _, _, _]) (by with_unfolding_all exact rfl) (fun K hK => ?_)
  iterate 5 (go_big_quiet_step (fail))
  refine wpQuiet_nil (hK _ ?_); clear hK K
  refine Dr.plan_end rfl ?_
  try go_frame
  rcases hpk with rfl | ⟨rfl, hp, hso⟩
  · go_wp2_with fail
    refine (CDr.out _).mono ?_; rintro e W9 ⟨rfl, hb9⟩
    go_wp2
    go_ret
    exact ⟨rfl, ext_trans hbw7 hb9⟩
  rw [HE.out.netE] at hp
  have hso := HE.out.season hso
  have hpb := net_bd hso hok (by rw [Hm.out]; omega)
  rw [← hp] at hpb
  have Hp := Lib.hid hp
  clear hp
  have hz1 : decide ((m : Int) < 1) = false := decide_eq_false (by omega)
  have hz2 : decide (8 < (m : Int)) = false := decide_eq_false (by omega)
  go_upto_block 0 with fail
  simp only [hz1, hz2, Bool.or_false]
  clear hz1 hz2 h1' h8'
  have ha1 := ext_alloc V2 (.cells #[.int .i64 0, .int .i64 0, .int .i64 0] 41)
  have ha2 := ext_alloc (V2.alloc (.cells #[.int .i64 0, .int .i64 0, .int .i64 0] 41)) (.cells #[.slice none 0 0, .int .i64 0, .slice (some ⟨V2.heap.size, 0, none⟩) 1 1] 45)
  have hC8 := (Blk.new V2 41 [.int .i64 0, .int .i64 0, .int .i64 0]).ext ha2
  have h88 := Blk.new (V2.alloc (.cells #[.int .i64 0, .int .i64 0, .int .i64 0] 41)) 45 [.slice none 0 0, .int .i64 0, .slice (some ⟨V2.heap.size, 0, none⟩) 1 1]
  have e8 : (V2.alloc (.cells #[.int .i64 0, .int .i64 0, .int .i64 0] 41)).heap.size = V2.heap.size + 1 := by simp
  rw [e8] at h88
  have hb8 := ext_trans (ext_trans hb7 ha1) ha2
  have hbw8 := ext_trans (ext_trans hbw7 ha1) ha2
  have hP8 := (hP7.ext ha1).ext ha2
  have hT8 := (hT7.ext ha1).ext ha2
  have hPl := hP7.lt
  change Blk ((V2.alloc (.cells #[.int .i64 0, .int .i64 0, .int .i64 0] 41)).alloc (.cells #[.slice none 0 0, .int .i64 0, .slice (some ⟨V2.heap.size, 0, none⟩) 1 1] 45)) _ _ _ at hC8 h88
  have hJ0 : LwJ t l (V2.heap.size + 1) V2.heap.size 0 ((V2.alloc (.cells #[.int .i64 0, .int .i64 0, .int .i64 0] 41)).alloc (.cells #[.slice none 0 0, .int .i64 0, .slice (some ⟨V2.heap.size, 0, none⟩) 1 1] 45)) ((V2.alloc (.cells #[.int .i64 0, .int .i64 0, .int .i64 0] 41)).alloc (.cells #[.slice none 0 0, .int .i64 0, .slice (some ⟨V2.heap.size, 0, none⟩) 1 1] 45)) := ⟨Below.refl _ _, h88.lt, _, h88, by rw [List.take_zero]; exact OwnL.nil⟩
  clear h88 ha1 ha2 e8 hb7 hbw7 hP7 hT7
  generalize (V2.alloc (.cells #[.int .i64 0, .int .i64 0, .int .i64 0] 41)).alloc (.cells #[.slice none 0 0, .int .i64 0, .slice (some ⟨V2.heap.size, 0, none⟩) 1 1] 45) = W8 at *
  generalize V2.heap.size = bc at *
  have Hat := Lib.hid (fun k (hk : k ≤ m) => hso.atE hok (k := k) (by rw [Hm.out]; exact hk))
  have Hob := Lib.hid (fun k (hk : k ≤ m) => hso.out hok (k := k) (by rw [Hm.out]; exact hk))
  have Hso := Lib.hid hso
  clear hso
  go_wp2
  go_loopw [9, 10, 11] (fun aa cc ii wr => ∃ (i : Nat) (g : Int), aa = .int .i64 (atE l i) ∧ cc = .int .i64 g ∧ Hid (g = outE t l i) ∧ ii = .int .i64 i ∧ i ≤ m ∧ LwJ t l (bc + 1) bc i W8 wr) (fun _ _ ii _ => m - (intOf ii).toNat)
  case atStart => exact ⟨0, 0, rfl, rfl, Lib.hid rfl, rfl, by omega, hJ0⟩
  case round =>
    obtain ⟨i, g, rfl, rfl, Hg, rfl, hi, hJ⟩ := hrel
    generalize wr = w4 at *
    have hgb := Hob.out i hi
    rw [← Hg.out] at hgb
    have hbW := hbw8.trans (hJ.bl.mono (by omega))
    by_cases hlt : i < m
    · have hil : i < l.length := by rw [Hm.out]; exact hlt
      have him : (i : Int) < (m : Int) := by omega
      have hi0 : (0 : Int) ≤ (i : Int) := by omega
      obtain ⟨b, off, rfl, -, g0, g1, g2⟩ := HS.out.at3 hil rfl
      have hst := Hso.out.at hil
      have Hs := Lib.hid (getD_at l hil default)
      have Ho1 := Lib.hid (out_succ t l i)
      have Ha1 := Lib.hid (show atE l (i + 1) = (l.getD i default).town from rfl)
      have Hc1 := Lib.hid (cty_succ t hil)
      rw [Hs.out] at hst Ho1 Ha1 Hc1
      have hcty : ctyE t l[i] = ⟨takeE (twE t l[i].town) l[i].fst (nE l[i]), 1, 1, 0⟩ := rfl
      generalize l[i] = s at *
      have hat := Hat.out i hi
      obtain ⟨ka, hka⟩ : ∃ k : Nat, atE l i = (k : Int) := ⟨(atE l i).toNat, by omega⟩
      have htn := hst.town
      have hfs := hst.fst
      have hls := hst.lst
      have hN10 := hst.n10
      have hN : (nE s : Int) = s.lst - s.fst + 1 := by unfold nE; omega
      have hTk := hst.tw hok
      have hcb := cost_bd hok hat (k := s.town) ⟨by omega, htn.2⟩
      rw [hka] at Ho1 hcb hat ⊢
      clear hka
      clear hst
      obtain ⟨a, f, z⟩ := s
      obtain ⟨k, hk⟩ : ∃ k : Nat, a = (k : Int) := ⟨a.toNat, by simp only at htn; omega⟩
      subst hk
      generalize hNN : nE ⟨(k : Int), f, z⟩ = N at *
      clear hNN
      simp only at g0 g1 g2 Ho1 Ha1 hcb htn hfs hls hN hTk hcty
      have c0 := cell_ext g0 hbW
      have c1 := cell_ext g1 hbW
      have c2 := cell_ext g2 hbW
      have hka9 : ka < t.tw.length := by omega
      have hk9 : k < t.tw.length := by omega
      have hka0 : (0 : Int) ≤ (ka : Int) := by omega
      have hkan : (ka : Int) < (t.tw.length : Int) := by omega
      have hk0 : (0 : Int) ≤ (k : Int) := by omega
      have hkn : (k : Int) < (t.tw.length : Int) := by omega
      obtain ⟨b3, off3, hA, hc3⟩ := tw_at (HM.out.ext hbW).tw hk9
      have r5 := hc3 5 _ rfl
      have htw : twE t (k : Int) = (t.tw[k]).x := by unfold twE; rw [Int.toNat_natCast, getD_at _ hk9]
      rw [← htw] at r5
      have HA := Lib.hid hA
      clear hA hc3 htw
      have hrn := hTk.rent
      have hrb := Lib.hid (fun n => reN_bd hrn n)
      have htb := Lib.hid (fun n => takeE_bd hTk f n)
      have hdb := Lib.hid (fun d => dayE_bd hTk d)
      have HEt := Lib.hid (HE.out.twE (k : Int))
      have HEn := Lib.hid HE.out.nt
      have HEd := Lib.hid HE.out.days
      have hdy := hok.days
      generalize twE t (k : Int) = x at *
      clear hTk
      have Hob2 := Lib.hid (show g = outE t l i from Hg.out)
      clear Hg
      have hob := Hob.out i hi
      generalize outE t l i = o at *
      have CDay := Lib.hid (fun V (hV : Below W5.heap.size W5 V) (n : Nat) (hn : n < N) => C7.out V hV k (f + n) ⟨by omega, by rw [HEn.out]; exact hk9⟩ ⟨by omega, by rw [HEd.out]; omega⟩)
      rw [HEt.out] at CDay
      go_wp2
      go_loopw [10, 12, 13] (fun cc tt dd wr => ∃ (n : Nat) (g h : Int), cc = .int .i64 g ∧ Hid (g = o + reN x.rent n) ∧ tt = .int .i64 h ∧ Hid (h = takeE x f n) ∧ dd = .int .i64 (f + n) ∧ n ≤ N ∧ Below w4.heap.size w4 wr) (fun _ _ dd _ => N - (intOf dd - f).toNat)
      case atStart => exact ⟨0, g, 0, rfl, Lib.hid (by rw [Hob2.out]; unfold reN; omega), rfl, Lib.hid rfl, by simp, by omega, Below.refl _ _⟩
      case round =>
        obtain ⟨n, g, h, rfl, Hg, rfl, Hh, rfl, hn9, hb⟩ := hrel
        have hd1 := cell_ext c1 hb
        have hd2 := cell_ext c2 hb
        have hd0 := cell_ext c0 hb
        have hrbn := hrb.out n
        have htbn := htb.out n
        have hgn := Hg.out
        have hhn := Hh.out
        generalize hre : reN x.rent n = re at *
        generalize hta : takeE x f n = ta at *
        have Hre := Lib.hid hre
        have Hta := Lib.hid hta
        clear hre hta
        subst hgn hhn
        clear Hg Hh
        by_cases hn : n < N
        · have hle : f + (n : Int) ≤ z := by omega
          have CD := Lib.hid (fun V hV => CDay.out V hV n hn)
          have hdn := hdb.out (f + n)
          generalize hyy : dayE x (f + n) = y at *
          have Hy := Lib.hid hyy
          clear hyy
          have e1 : wrap64 (h + y) = h + y := by unfold wrap64; omega
          have e2 : wrap64 (o + re + x.rent) = o + re + x.rent := by unfold wrap64; omega
          have e3 : wrap64 (f + (n : Int) + 1) = f + (n : Int) + 1 := by unfold wrap64; omega
          go_upto_region 16 with fail
          refine Dr.wp_region_plan 13 [] (.q [0, 1, 2, 3, 4, 5, 6] (.e1 7 (.q [8, 9, 10, 11, 12] .done))) (by kernel_rfl) (by kernel_rfl) ?_
          have hbd := hb.drew
          have hPd := ((hP8.under hJ.bl (by omega)).ext hb).drew
          have q5 := Dr.cell0 (cell_ext hd0 (ext_drew wr))
          clear hb hd0 hd1 hd2
          generalize World.drew wr = V at *
          have q0 := Dr.cell0 (hPd.cell (i := 0) rfl)
          have q1 := Dr.cell0 (hPd.cell (i := 1) rfl)
          have q2 := Dr.cell0 (hPd.cell (i := 2) rfl)
          have q3 := Dr.cell0 (hPd.cell (i := 3) rfl)
          have q4 := Dr.cell0 (hPd.cell (i := 4) rfl)
          with_reducible refine Dr.plan_q (l := [_, _, _, _, _, _, _]) (by with_unfolding_all exact rfl) (fun K hK => ?_)
          iterate 7 (go_big_quiet_step (fail))
          refine wpQuiet_nil (hK _ ?_); clear hK K
          clear q0 q1 q2 q3 q4 q5 hPd
          refine Dr.plan_e rfl (by rfl) (fun K hK => ?_)
          go_wp2_with fail
          refine (CD.out _ (ext_trans (hb8.trans (hJ.bl.mono (by omega))) hbd)).mono ?_; rintro e V1 ⟨rfl, hb1⟩
          refine hK _ _ (.of hb1) ?_; clear hK K CD
          have hb2 := ext_trans hbd hb1
          clear hbd hb1
          with_reducible refine Dr.plan_q (l := [_, _, _, _, _]) (by with_unfolding_all exact rfl) (fun K hK => ?_)
          iterate 5 (go_big_quiet_step (fail))
          refine wpQuiet_nil (hK _ ?_); clear hK K
          refine Dr.plan_end rfl ?_
          try go_frame
          go_upto_region 20 with fail
          refine Dr.wp_region_plan 13 [] (.q [0, 1, 2, 3, 4, 5, 6, 7, 8, 9, 10, 11, 12] .done) (by kernel_rfl) (by kernel_rfl) ?_
          have hbd := hb2.drew
          have hTd := ((hT8.under hJ.bl (by omega)).ext hb2).drew
          have q5 := Dr.cell0 (cell_ext c0 hbd)
          have q6 := Dr.cell0 (cell_ext r5 hbd)
          clear hb2
          generalize World.drew V1 = U at *
          have q3 := Dr.cell0 (hTd.cell (i := 3) rfl)
          rw [HA.out] at q3
          with_reducible refine Dr.plan_q (l := [_, _, _, _, _, _, _, _, _, _, _, _, _]) (by with_unfolding_all exact rfl) (fun K hK => ?_)
          iterate 13 (go_big_quiet_step (fail))
          refine wpQuiet_nil (hK _ ?_); clear hK K
          clear q3 q5 q6 hTd
          refine Dr.plan_end rfl ?_
          try go_frame
          go_wp2
          go_roundw
          case rel => exact ⟨n + 1, o + re + x.rent, h + y, rfl, Lib.hid (by unfold reN; rw [Hre.out]; omega), rfl, Lib.hid (by unfold takeE; rw [Hta.out, Hy.out]), by push_cast; rw [Int.add_assoc], by omega, hbd⟩
          case measure => simp [intOf]; omega
        · obtain rfl : n = N := by omega
          have hle : ¬ f + (n : Int) ≤ z := by omega
          have hJ2 := hJ.ext hb
          obtain ⟨v, h8b, hov⟩ := hJ2.bo
          have hb55 := ext_alloc wr (.cells #[.int .i64 h, .int .i64 1, .int .i64 1, .int .i64 0] 55)
          have nw := Blk.new wr 55 [.int .i64 h, .int .i64 1, .int .i64 1, .int .i64 0]
          have h8v : wr.cell? ⟨bc + 1, 0, none⟩ = some v := h8b.cell (i := 0) rfl
          have h8s := hJ2.sz
          have hli : ((l.take i).map (ctyE t)).length ≤ 1000000 := by rw [List.length_map, List.length_take]; omega
          rw [Hta.out] at hcty
          rw [hcty] at Hc1
          have HLl := Lib.hid (show ((l.take i).map (ctyE t)).length = i by rw [List.length_map, List.length_take]; omega)
          generalize hLL : (l.take i).map (ctyE t) = L at *
          have HP := Lib.hid (fun V9 v9 (hown : OwnL V9 (bc + 1 + 1) 55 4 Cty.enc v9 (L ++ [⟨h, 1, 1, 0⟩])) hbl => hJ2.push hb55 h8b (V9 := V9) (v9 := v9) (y := ⟨h, 1, 1, 0⟩) (by rw [hLL]; exact Hc1.out) (by rw [hLL]; exact hown) hbl)
          have h8x := h8b.ext hb55
          have hovx := hov.alloc (.cells #[.int .i64 h, .int .i64 1, .int .i64 1, .int .i64 0] 55)
          have hbl0 := Lib.hid hb
          clear hJ2 hov hb55 hcty h8b hLL
          go_upto_region 22 with (at_builtin; refine app1 Cty.enc 43 55 4 32 et33 (by decide) (by decide) cty_len cty_one rfl _ _ rfl (bc + 1 + 1) _ L rfl hovx wr.heap.size rfl ⟨h, 1, 1, 0⟩ (fun j u hj => nw.cell hj) hli (by simp; omega) ?_; intro g' cap' V9 hown' hb7 hgr7 _; have hO9 := h8x.under hb7 (by omega); have o9 : V9.cell? ⟨bc + 1, 0, none⟩ = some v := hO9.cell rfl; have f9 := hO9.free 0)
          have HR := HP.out _ _ hown' hb7
          clear o9 f9 hO9 hown' hb7 hgr7 hovx h8x HP nw h8v hd0 hd1 hd2 c0 c1 c2 r5
          generalize V9.setCell ⟨bc + 1, 0, none⟩ (.slice (some ⟨g', 0, none⟩) (L.length + 1) cap') = U at *
          have hbU := hbw8.trans (HR.bl.mono (by omega))
          obtain ⟨b4, off4, b5, off5, c5, hBB, r0, r1⟩ := leg_at (HM.out.ext hbU) hok hka9 hk9
          have HBB := Lib.hid hBB
          clear hBB
          generalize costE t (ka : Int) (k : Int) = co at *
          have e2 : wrap64 (o + re + co) = o + re + co := by unfold wrap64; omega
          have hkal : ka < t.lg.length := by rw [hok.nl]; exact hka9
          have hkali : (ka : Int) < (t.lg.length : Int) := by omega
          refine Dr.wp_region_plan 16 [] (.q [0, 1, 2, 3, 4, 5, 6, 7, 8, 9, 10, 11, 12, 13, 14, 15] .done) (by kernel_rfl) (by kernel_rfl) ?_
          have hJd := HR.ext (ext_drew U)
          have q0 := Dr.cell0 (cell_ext (cell_ext g0 hbU) (ext_drew U))
          have q1 := Dr.cell0 (cell_ext r0 (ext_drew U))
          have q2 := Dr.cell0 (cell_ext r1 (ext_drew U))
          clear HR r0 r1
          generalize World.drew U = Y at *
          have hTd := hT8.under hJd.bl (by omega)
          have q3 := Dr.cell0 (hTd.cell (i := 4) rfl)
          rw [HBB.out] at q3
          with_reducible refine Dr.plan_q (l := [_, _, _, _, _, _, _, _, _, _, _, _, _, _, _, _]) (by with_unfolding_all exact rfl) (fun K hK => ?_)
          iterate 16 (go_big_quiet_step (fail))
          refine wpQuiet_nil (hK _ ?_); clear hK K
          clear q0 q1 q2 q3 hTd
          refine Dr.plan_end rfl ?_
          try go_frame
          have c0 := cell_ext g0 (hbw8.trans (hJd.bl.mono (show w.heap.size ≤ bc + 1 by omega)))
          go_wp2
          go_roundw
          case rel => exact ⟨i + 1, o + re + co, by rw [Ha1.out], rfl, Lib.hid (by rw [Ho1.out, Hre.out]), by go_num, by omega, hJd⟩
          case measure => simp [intOf]; omega
    · obtain rfl : i = m := by omega
      have hat := Hat.out i hi
      have h0t : 0 < t.tw.length := by have := hok.n2; omega
      have Hw := Lib.hid (show wageE t l = outE t l l.length + costE t (atE l l.length) 0 from rfl)
      rw [Hm.out] at Hw
      have hfb := cost_bd hok hat (k := 0) ⟨by omega, by omega⟩
      obtain ⟨ka, hka⟩ : ∃ k : Nat, atE l i = (k : Int) := ⟨(atE l i).toNat, by omega⟩
      rw [hka] at hat Hw hfb ⊢
      clear hka
      have hka9 : ka < t.tw.length := by omega
      have hka0 : (0 : Int) ≤ (ka : Int) := by omega
      have hkal : ka < t.lg.length := by rw [hok.nl]; exact hka9
      have hkali : (ka : Int) < (t.lg.length : Int) := by omega
      obtain ⟨b4, off4, b5, off5, c5, hBB, r0, r1⟩ := leg_at (HM.out.ext hbW) hok hka9 h0t
      rw [show ((0 : Nat) : Int) = 0 from rfl] at r1
      simp only [Nat.zero_mul, Nat.add_zero] at r1
      have HBB := Lib.hid hBB
      clear hBB
      generalize costE t (ka : Int) 0 = fin at *
      have e1 : wrap64 (g + fin) = g + fin := by unfold wrap64; omega
      have Hw2 := Lib.hid (show g + fin = wageE t l by rw [Hw.out, Hg.out])
      have h0l : (0 : Int) < (t.tw.length : Int) := by omega
      go_upto_region 24 with fail
      refine Dr.wp_region_plan 14 [] (.q [0, 1, 2, 3, 4, 5, 6, 7, 8, 9, 10, 11, 12, 13] .done) (by kernel_rfl) (by kernel_rfl) ?_
      have hJd := hJ.ext (ext_drew w4)
      have q0 := Dr.cell0 (cell_ext r0 (ext_drew w4))
      have q1 := Dr.cell0 (cell_ext r1 (ext_drew w4))
      clear r0 r1 hJ
      generalize World.drew w4 = V at *
      obtain ⟨v, h8b, hov⟩ := hJd.bo
      have hTd := hT8.under hJd.bl (by omega)
      have hCd := hC8.under hJd.bl (by omega)
      have hJs := hJd.sz
      have q2 := Dr.cell0 (hTd.cell (i := 4) rfl)
      rw [HBB.out] at q2
      have q3 := Dr.cell0 (h8b.cell (i := 2) rfl)
      with_reducible refine Dr.plan_q (l := [_, _, _, _, _, _, _, _, _, _, _, _, _, _]) (by with_unfolding_all exact rfl) (fun K hK => ?_)
      iterate 14 (go_big_quiet_step (fail))
      refine wpQuiet_nil (hK _ ?_); clear hK K
      clear q0 q1 q2 q3 hTd
      have y1 : V.cell? ⟨bc, 1, none⟩ = _ := hCd.cell (i := 1) rfl
      have f1 := hCd.free 1
      refine Dr.plan_done (tl := [_]) rfl ?_
      go_upto_region 25 with fail
      have hCU := hCd.set 1 (.int .i64 (g + fin))
      have h8U := h8b.other (p := ⟨bc, 1, none⟩) (by simp) (.int .i64 (g + fin))
      have hoU := hov.setCell (p := ⟨bc, 1, none⟩) (by simp; omega) (.int .i64 (g + fin))
      have hbU := (hbw8.trans (hJd.bl.mono (show w.heap.size ≤ bc + 1 by omega))).setCell (p := ⟨bc, 1, none⟩) (by simp; omega) (.int .i64 (g + fin))
      change Blk (V.setCell ⟨bc, 1, none⟩ (.int .i64 (g + fin))) bc 41 [.int .i64 0, .int .i64 (g + fin), .int .i64 0] at hCU
      clear y1 f1 hCd h8b hov hJd
      generalize V.setCell ⟨bc, 1, none⟩ (.int .i64 (g + fin)) = U at *
      rw [List.take_of_length_le (by rw [Hm.out]; exact Nat.le_refl _)] at hoU
      obtain ⟨A9, c9, rfl, -, -, hc9⟩ := hoU.cells cty_len
      have hml : (l.map (ctyE t)).length = i := by rw [List.length_map, Hm.out]
      rw [hml] at h8U
      have hcB : Cells U (some ⟨bc, 0, none⟩) 3 Ctr.enc [⟨0, wageE t l, 0⟩] := fun a x hx => by
        have ha : a = 0 := by
          have := (List.getElem?_eq_some_iff.1 hx).1
          simp at this
          exact this
        subst ha
        simp at hx
        subst hx
        rw [← Hw2.out]
        exact ⟨bc, 0, rfl, fun j u hj => by rw [Nat.zero_mul, Nat.zero_add, Nat.zero_add]; exact hCU.cell hj⟩
      have hpay := week_pay Hso.out hok (by rw [Hm.out]; omega)
      have hwok := week_ok Hso.out hok (by rw [Hm.out]; omega) (by rw [Hm.out]; omega)
      have CS := settle_ok (weekE t l) A9 (some ⟨bc, 0, none⟩) i c9 1 1 U hml rfl hc9 hcB hwok
      rw [hpay.1, hpay.2, ← Hp.out] at CS
      clear hcB hc9 hwok hoU hCU hml hpay
      have CS := Lib.hid (show Calls Try.prog 13 #[.agg #[.slice A9 i c9, .int .i64 0, .slice (some ⟨bc, 0, none⟩) 1 1]] U fun e w' => ∃ A1 n1 d1 A2 n2 d2 A3 n3 d3 A4 d4 A5 n5 d5 x y, e = .returned (.tuple #[.agg #[.slice A1 n1 d1, .slice A2 n2 d2, .int .i64 x, .int .i64 y, .slice A3 n3 d3, .slice A4 1 d4, .slice A5 n5 d5, .int .i64 (max 0 p)], .int .i64 0]) ∧ Cells w' A4 1 encI [max 0 (-p)] ∧ Below U.heap.size U w' from
        CS.mono (by
          rintro e W' ⟨v1, v2, v3, v4, v5, rfl, ⟨A1, d1, rfl, -⟩, ⟨A2, d2, rfl, -⟩, ⟨A3, d3, rfl, -⟩, ⟨A4, d4, rfl, -, -, hc, -⟩, ⟨A5, d5, rfl, -⟩, hb⟩
          exact ⟨A1, _, d1, A2, _, d2, A3, _, d3, A4, d4, A5, _, d5, _, _, rfl, hc, hb⟩))
      have y0 : U.cell? ⟨bc + 1, 0, none⟩ = _ := h8U.cell (i := 0) rfl
      have y1 : U.cell? ⟨bc + 1, 1, none⟩ = _ := h8U.cell (i := 1) rfl
      have y2 : U.cell? ⟨bc + 1, 2, none⟩ = _ := h8U.cell (i := 2) rfl
      have e3 : wrap64 (-p) = -p := by unfold wrap64; omega
      go_wp2_with fail
      refine CS.out.mono ?_; rintro e W9 ⟨A1, n1, d1, A2, n2, d2, A3, n3, d3, A4, d4, A5, n5, d5, x, y, rfl, hc4, hb9⟩
      have hbf := ext_trans hbU hb9
      clear y0 y1 y2 h8U CS hb9 hbU
      obtain ⟨b7, off7, rfl, hb7l, s0⟩ := hc4.at1 (k := 0) (by simp) rfl
      simp only [List.getElem_cons_zero, Nat.add_zero] at s0
      clear hc4
      have hxn := ext_alloc W9 (.cells #[.slice A1 n1 d1, .slice A2 n2 d2, .int .i64 x, .int .i64 y, .slice A3 n3 d3, .slice (some ⟨b7, off7, none⟩) 1 d4, .slice A5 n5 d5, .int .i64 (max 0 p)] 61)
      have hbn := ext_trans hbf hxn
      rcases (show p = 0 ∨ 0 < p ∨ p < 0 by omega) with hp | hp | hp
      · subst hp
        go_wp2_with fail
        refine (CDr.out _).mono ?_; rintro e W10 ⟨rfl, hb10⟩
        go_wp2
        go_ret
        exact ⟨rfl, ext_trans hbn hb10⟩
      · rw [show max 0 p = p by omega] at hxn hbn ⊢
        rw [show max 0 (-p) = 0 by omega] at s0
        have hp1 : ¬ p ≤ 0 := by omega
        have hp2 : -p ≤ 0 := by omega
        go_wp2_with fail
        refine (CDr.out _).mono ?_; rintro e W10 ⟨rfl, hb10⟩
        go_wp2
        go_ret
        exact ⟨rfl, ext_trans hbn hb10⟩
      · rw [show max 0 p = 0 by omega] at hxn hbn ⊢
        rw [show max 0 (-p) = -p by omega] at s0
        have hp1 : p ≤ 0 := by omega
        have hp2 : ¬ -p ≤ 0 := by omega
        go_wp2_with fail
        refine (CDr.out _).mono ?_; rintro e W10 ⟨rfl, hb10⟩
        go_wp2
        go_ret
        exact ⟨rfl, ext_trans hbn hb10⟩
end Go.Proofs.Ytilkoooahoecfaa.Er

/- Walks: route: profit, Profit, Day. (Printed by mk_ernl.py.) -/
import Derived.Test.YtilkoooahoecfaaErnK
namespace Go.Er
open Go.RowKit Go.Bs
theorem SeasonOk.prof {t : TrV} {l : List StE} (h : SeasonOk t l) (ht : TrOk t) {k : Nat} (hk : k ≤ l.length) : -11000000 * (k : Int) ≤ profE t l k ∧ profE t l k ≤ 10000000 * k := by
  have h1 := h.out ht hk
  have h2 := h.sum ht hk
  have h3 := prof_eq t l k
  omega
/-- a leg of the copy, as it lies -/
theorem leg_at {W : World} {t : TrV} (hM : TrM W t) (ht : TrOk t) {i k : Nat} (hi : i < t.tw.length) (hk : k < t.tw.length) :
    ∃ b off b2 off2 c, t.B = some ⟨b, off, none⟩ ∧ W.cell? ⟨b, off + i, none⟩ = some (.slice (some ⟨b2, off2, none⟩) t.tw.length c) ∧ W.cell? ⟨b2, off2 + k * 2 + 1, none⟩ = some (.int .i64 (costE t i k)) := by
  have hil : i < t.lg.length := by have := ht.nl; omega
  have hlen := ht.row i hi
  have hB := hM.lg.at1 hil rfl
  have hrM := (hM.leg _ (List.getElem_mem hil)).1
  unfold costE
  rw [Int.toNat_natCast, Int.toNat_natCast, getD_at _ hil] at *
  obtain ⟨b, off, h1, -, h2⟩ := hB
  generalize t.lg[i] = row at *
  obtain ⟨rl, rA, rc⟩ := row
  simp only at h2 hrM hlen ⊢
  have hkl : k < rl.length := by omega
  obtain ⟨b6, off6, hA, -, -, r11⟩ := Cells.at2 hrM hkl (v0 := .int .i64 (rl.getD k (0, 0)).1) (v1 := .int .i64 (rl.getD k (0, 0)).2) (by rw [getD_at _ hkl]; rfl)
  rw [hA, hlen] at h2
  exact ⟨b, off, b6, off6, rc, h1, h2, r11⟩
end Go.Er
namespace Go.Proofs.Ytilkoooahoecfaa.Er
open Go.RowKit Go.Bs Go.Pl Go.Sort Go.Er
set_option maxRecDepth 100000 in
set_option maxHeartbeats 2000000 in
theorem profit_any (t : TrV) (l : List StE) (S : Option Addr) (m c : Nat) (w : World) (hM : TrM w t) (ht : TrOk t) (hS : Cells w S 3 StE.enc l) (hm : l.length = m) (hm9 : m ≤ 8) (hs : SeasonOk t l) :
    Calls Try.prog 28 #[t.val, .slice S m c] w fun e w' => e = .returned (.int .i64 (netE t l)) ∧ Below w.heap.size w w' := by
  unfold netE
  rw [hm]
  have hx := ext_alloc w (.cells t.cells.toArray 33)
  have hT := Blk.new w 33 t.cells
  have hM1 := hM.ext hx
  have hS1 := hS.ext hx
  have HM := Lib.hid hM
  have HS := Lib.hid hS
  have Hok := Lib.hid hs
  have Ht := Lib.hid ht
  have Hm := Lib.hid hm
  have h0t : 0 < t.tw.length := by have := ht.n2; omega
  have h0i : (0 : Int) < (t.tw.length : Int) := by omega
  obtain ⟨b3, off3, _, _, _, hBB, -, -⟩ := leg_at hM1 ht h0t h0t
  have HBB := Lib.hid hBB
  have hnl := ht.nl
  have Hat := Lib.hid (fun k (hk : k ≤ m) => hs.atE ht (k := k) (by omega))
  have Hpb := Lib.hid (fun k (hk : k ≤ m) => hs.prof ht (k := k) (by omega))
  have Hgain := Lib.hid (fun V (s : StE) (hV : Below w.heap.size w V) (h : StopOk t s) => gain_any t s V (hM.ext hV) ht h)
  clear hM ht hS hs hM1 hS1 hm
  generalize hF : costE t (atE l m) 0 = fin
  have HF := Lib.hid hF
  have hfb := cost_bd Ht.out (Hat.out m (Nat.le_refl _)) (k := 0) ⟨by omega, h0i⟩
  rw [hF] at hfb
  clear hF
  unfold TrV.val TrV.cells StE.val at *
  rw [hBB, hnl] at hT Hgain hx ⊢
  clear hBB hnl
  change Blk (w.alloc (.cells #[.int .i64 t.days, .int .i64 t.shift, .int .i64 t.size, .slice t.A t.tw.length t.ca, .slice (some ⟨b3, off3, none⟩) t.tw.length t.cb] 33)) w.heap.size _ _ at hT
  change Below w.heap.size w (w.alloc (.cells #[.int .i64 t.days, .int .i64 t.shift, .int .i64 t.size, .slice t.A t.tw.length t.ca, .slice (some ⟨b3, off3, none⟩) t.tw.length t.cb] 33)) at hx
  go_enter Try.func28, Try.ntmps28
  go_upto_block 0 with fail
  generalize (w.alloc (.cells #[.int .i64 t.days, .int .i64 t.shift, .int .i64 t.size, .slice t.A t.tw.length t.ca, .slice (some ⟨b3, off3, none⟩) t.tw.length t.cb] 33)) = W1 at *
  go_wp2
  go_loopw [4, 5, 10] (fun out aa ii wr => ∃ (i : Nat) (g : Int), out = .int .i64 g ∧ Hid (g = profE t l i) ∧ aa = .int .i64 (atE l i) ∧ ii = .int .i64 i ∧ i ≤ m ∧ Below W1.heap.size W1 wr) (fun _ _ ii _ => m - (intOf ii).toNat)
  case atStart => exact ⟨0, 0, rfl, Lib.hid rfl, rfl, rfl, by omega, Below.refl _ _⟩
  case round =>
    obtain ⟨i, g, rfl, Hg, rfl, rfl, hi, hb⟩ := hrel
    have hgb := Hpb.out i hi
    rw [← Hg.out] at hgb
    by_cases hlt : i < m
    · have hil : i < l.length := by rw [Hm.out]; exact hlt
      have him : (i : Int) < (m : Int) := by omega
      have hi0 : (0 : Int) ≤ (i : Int) := by omega
      obtain ⟨b, off, rfl, -, c0, c1, c2⟩ := (HS.out.ext (ext_trans hx hb)).at3 hil rfl
      have hok := Hok.out.at hil
      have Hs := Lib.hid (getD_at l hil default)
      rw [Hs.out] at hok
      have Hp1 := Lib.hid (show profE t l (i + 1) = profE t l i + (tkE t (l.getD i default) - rentE t (l.getD i default) - costE t (atE l i) (l.getD i default).town) from rfl)
      have Ha1 := Lib.hid (show atE l (i + 1) = (l.getD i default).town from rfl)
      rw [Hs.out] at Hp1 Ha1
      generalize l[i] = s at *
      have hat := Hat.out i hi
      obtain ⟨ka, hka⟩ : ∃ k : Nat, atE l i = (k : Int) := ⟨(atE l i).toNat, by omega⟩
      have htk := hok.tk Ht.out
      have hrn := hok.rent Ht.out
      have htn := hok.town
      have hcb := cost_bd Ht.out hat (k := s.town) ⟨by omega, htn.2⟩
      have hGa := Lib.hid (fun V hV => Hgain.out V s hV hok)
      rw [hka] at Hp1 hcb hat ⊢
      clear hka
      generalize htkE : tkE t s = tk at *
      generalize hrnE : rentE t s = rn at *
      clear htkE hrnE
      clear hok
      obtain ⟨a, f, z⟩ := s
      obtain ⟨k, hk⟩ : ∃ k : Nat, a = (k : Int) := ⟨a.toNat, by simp only at htn; omega⟩
      subst hk
      simp only at c0 c1 c2 hGa Hp1 Ha1 hcb htn
      have hka9 : ka < t.tw.length := by omega
      have hk9 : k < t.tw.length := by omega
      have hka0 : (0 : Int) ≤ (ka : Int) := by omega
      have hkan : (ka : Int) < (t.tw.length : Int) := by omega
      have hk0 : (0 : Int) ≤ (k : Int) := by omega
      have hkn : (k : Int) < (t.tw.length : Int) := by omega
      obtain ⟨b4, off4, b5, off5, c5, e4, r0, r1⟩ := leg_at (HM.out.ext (ext_trans hx hb)) Ht.out hka9 hk9
      rw [HBB.out] at e4
      cases e4
      generalize costE t (ka : Int) (k : Int) = co at *
      have e1 : wrap64 (tk - rn - co) = tk - rn - co := by unfold wrap64; omega
      have e2 : wrap64 (g + (tk - rn - co)) = g + (tk - rn - co) := by unfold wrap64; omega
      go_upto_region 5 with fail
      have hxn := ext_alloc wr (.cells #[.int .i64 (k : Int), .int .i64 f, .int .i64 z] 104)
      have hE := Blk.new wr 104 [.int .i64 (k : Int), .int .i64 f, .int .i64 z]
      have hbx := hb.trans (hxn.mono hb.size)
      have r0 := cell_ext r0 hxn
      have r1 := cell_ext r1 hxn
      change Blk (wr.alloc (.cells #[.int .i64 (k : Int), .int .i64 f, .int .i64 z] 104)) _ _ _ at hE
      clear c0 c1 c2 hb hxn
      generalize hw4 : wr.alloc (.cells #[.int .i64 (k : Int), .int .i64 f, .int .i64 z] 104) = W4 at *
      generalize hrb : wr.heap.size = rb at *
      clear hw4 hrb
      refine Dr.wp_region_plan 17 [] (.q [0, 1, 2, 4, 5, 6, 7, 8, 9, 10, 11, 12, 13] (.e1 3 (.q [14, 15, 16] .done))) (by kernel_rfl) (by kernel_rfl) ?_
      have hbd := hbx.drew
      have hTd := (hT.ext hbx).drew
      have hEd := hE.drew
      have q10 := Dr.cell0 (cell_ext r0 (ext_drew W4))
      have q11 := Dr.cell0 (cell_ext r1 (ext_drew W4))
      clear r0 r1 hbx hE
      generalize World.drew W4 = V at *
      have q0 := Dr.cell0 (hTd.cell (i := 0) rfl)
      have q1 := Dr.cell0 (hTd.cell (i := 1) rfl)
      have q2 := Dr.cell0 (hTd.cell (i := 2) rfl)
      have q3 := Dr.cell0 (hTd.cell (i := 3) rfl)
      have q4 := Dr.cell0 (hTd.cell (i := 4) rfl)
      have q5 := Dr.cell0 (hEd.cell (i := 0) rfl)
      have q6 := Dr.cell0 (hEd.cell (i := 1) rfl)
      have q7 := Dr.cell0 (hEd.cell (i := 2) rfl)
      with_reducible refine Dr.plan_q (l := [_, _, _, _, _, _, _, _, _, _, _, _, _]) (by with_unfolding_all exact rfl) (fun K hK => ?_)
      iterate 13 (go_big_quiet_step (fail))
      refine wpQuiet_nil (hK _ ?_); clear hK K
      clear q0 q1 q2 q3 q4 q5 q6 q7 q10 q11
      refine Dr.plan_e rfl (by rfl) (fun K hK => ?_)
      go_wp2_with fail
      refine (hGa.out _ (ext_trans hx hbd)).mono ?_; rintro e V1 ⟨rfl, hb1⟩
      refine hK _ _ (.of hb1) ?_; clear hK K
      have hbf := ext_trans hbd hb1
      have hEf := hEd.ext hb1
      clear hbd hTd hb1 hEd
      with_reducible refine Dr.plan_q (l := [_, _, _]) (by with_unfolding_all exact rfl) (fun K hK => ?_)
      iterate 3 (go_big_quiet_step (fail))
      refine wpQuiet_nil (hK _ ?_); clear hK K
      refine Dr.plan_end rfl ?_
      try go_frame
      have d0 : V1.cell? ⟨rb, 0, none⟩ = _ := hEf.cell (i := 0) rfl
      go_wp2
      go_roundw
      case rel => exact ⟨i + 1, g + (tk - rn - co), rfl, Lib.hid (by rw [Hp1.out, Hg.out]), by rw [Ha1.out], by go_num, by omega, hbf⟩
      case measure => simp [intOf]; omega
    · obtain rfl : i = m := by omega
      have hat := Hat.out i hi
      obtain ⟨ka, hka⟩ : ∃ k : Nat, atE l i = (k : Int) := ⟨(atE l i).toNat, by omega⟩
      rw [hka] at hat HF ⊢
      clear hka
      have hka9 : ka < t.tw.length := by omega
      have hka0 : (0 : Int) ≤ (ka : Int) := by omega
      have hkan : (ka : Int) < (t.tw.length : Int) := by omega
      obtain ⟨b4, off4, b5, off5, c5, e4, r0, r1⟩ := leg_at (HM.out.ext (ext_trans hx hb)) Ht.out hka9 h0t
      rw [HBB.out] at e4
      cases e4
      have HF2 := HF.out
      rw [show ((0 : Nat) : Int) = 0 from rfl, HF2] at r1
      clear HF2
      simp only [Nat.zero_mul, Nat.add_zero] at r1
      have hTb := hT.ext hb
      have x4 : wr.cell? ⟨w.heap.size, 4, none⟩ = _ := hTb.cell (i := 4) rfl
      have e1 : wrap64 (g - fin) = g - fin := by unfold wrap64; omega
      have Hgf := Lib.hid (show g - fin = profE t l i - fin by rw [Hg.out])
      go_wp2
      go_ret
      exact ⟨ret_congr (int_congr Hgf.out), ext_trans hx hb⟩
set_option maxRecDepth 100000 in
theorem Profit_any (t : TrV) (l : List StE) (S : Option Addr) (m c : Nat) (w : World) (hM : TrM w t) (ht : TrOk t) (hca : t.tw.length ≤ t.ca) (hS : Cells w S 3 StE.enc l) (hm : l.length = m) (hm8 : m ≤ 8) (hmc : m ≤ c) (hn : ∀ s ∈ l, NearE s) :
    Calls Try.prog 10 #[t.val, .slice S m c] w fun e w' => (∃ p k : Int, e = .returned (.tuple #[.int .i64 p, .int .i64 k]) ∧ (k = 9 ∨ (k = 0 ∧ p = netE t l ∧ SeasonOk t l))) ∧ Below w.heap.size w w' := by
  have hx := ext_alloc w (.cells t.cells.toArray 33)
  have hT := Blk.new w 33 t.cells
  have C1 := Lib.hid (fun V (hV : Below w.heap.size w V) => rcheck_t t S m c V (hM.ext hV) ht hca hm8)
  have C2 := Lib.hid (fun V (hV : Below w.heap.size w V) => faults_any t l S m c V (hM.ext hV) ht (hS.ext hV) hm (by omega) hmc hn)
  have C3 := Lib.hid (fun V (hV : Below w.heap.size w V) (h : SeasonOk t l) => profit_any t l S m c V (hM.ext hV) ht (hS.ext hV) hm hm8 h)
  clear hM ht hS hn
  unfold TrV.val TrV.cells at *
  generalize netE t l = net at *
  go_enter Try.func10, Try.ntmps10
  go_upto_region 1 with fail
  change Blk (w.alloc (.cells #[.int .i64 t.days, .int .i64 t.shift, .int .i64 t.size, .slice t.A t.tw.length t.ca, .slice t.B t.lg.length t.cb] 33)) _ _ _ at hT
  generalize (w.alloc (.cells #[.int .i64 t.days, .int .i64 t.shift, .int .i64 t.size, .slice t.A t.tw.length t.ca, .slice t.B t.lg.length t.cb] 33)) = W1 at *
  have b0 : W1.cell? ⟨w.heap.size, 0, none⟩ = _ := hT.cell (i := 0) rfl
  have b1 : W1.cell? ⟨w.heap.size, 1, none⟩ = _ := hT.cell (i := 1) rfl
  have b2 : W1.cell? ⟨w.heap.size, 2, none⟩ = _ := hT.cell (i := 2) rfl
  have b3 : W1.cell? ⟨w.heap.size, 3, none⟩ = _ := hT.cell (i := 3) rfl
  have b4 : W1.cell? ⟨w.heap.size, 4, none⟩ = _ := hT.cell (i := 4) rfl
  go_wp2_with fail
  refine (C1.out _ hx).mono ?_; rintro e W2 ⟨rfl, hb2⟩
  have hx2 := ext_trans hx hb2
  have hT2 := hT.ext hb2
  clear b0 b1 b2 b3 b4 hT hx hb2
  have b0 : W2.cell? ⟨w.heap.size, 0, none⟩ = _ := hT2.cell (i := 0) rfl
  have b1 : W2.cell? ⟨w.heap.size, 1, none⟩ = _ := hT2.cell (i := 1) rfl
  have b2 : W2.cell? ⟨w.heap.size, 2, none⟩ = _ := hT2.cell (i := 2) rfl
  have b3 : W2.cell? ⟨w.heap.size, 3, none⟩ = _ := hT2.cell (i := 3) rfl
  have b4 : W2.cell? ⟨w.heap.size, 4, none⟩ = _ := hT2.cell (i := 4) rfl
  go_wp2_with fail
  refine (C2.out _ hx2).mono ?_; rintro e W3 ⟨⟨A, n, c', rfl, hn⟩, hb3⟩
  have hx3 := ext_trans hx2 hb3
  have hT3 := hT2.ext hb3
  clear b0 b1 b2 b3 b4 hT2 hx2 hb3
  by_cases h0 : n = 0
  · subst h0
    have hok := hn rfl
    have C4 := Lib.hid (C3.out _ hx3 hok)
    have Hok := Lib.hid hok
    clear hok hn
    have b0 : W3.cell? ⟨w.heap.size, 0, none⟩ = _ := hT3.cell (i := 0) rfl
    have b1 : W3.cell? ⟨w.heap.size, 1, none⟩ = _ := hT3.cell (i := 1) rfl
    have b2 : W3.cell? ⟨w.heap.size, 2, none⟩ = _ := hT3.cell (i := 2) rfl
    have b3 : W3.cell? ⟨w.heap.size, 3, none⟩ = _ := hT3.cell (i := 3) rfl
    have b4 : W3.cell? ⟨w.heap.size, 4, none⟩ = _ := hT3.cell (i := 4) rfl
    go_wp2_with fail
    refine C4.out.mono ?_; rintro e W4 ⟨rfl, hb4⟩
    go_wp2
    refine bodyPost_ret (v := .tuple #[.int .i64 net, .int .i64 0]) (by simp [results, Try.results10, go_sem]) rfl ?_
    exact ⟨⟨net, 0, rfl, .inr ⟨rfl, rfl, Hok.out⟩⟩, ext_trans hx3 hb4⟩
  · have hn0 : (0 : Int) < (n : Int) := by omega
    have hn1 : 0 < n := by omega
    clear hn
    go_wp2
    refine bodyPost_ret (v := .tuple #[.int .i64 0, .int .i64 9]) (by simp [results, Try.results10, go_sem]) rfl ?_
    exact ⟨⟨0, 9, rfl, .inl rfl⟩, hx3⟩
set_option maxRecDepth 100000 in
theorem Day_any (t : TrV) (k : Nat) (d : Int) (w : World) (hM : TrM w t) (ht : TrOk t) (hca : t.tw.length ≤ t.ca) (hk : 1 ≤ k ∧ k < t.tw.length) (hd : 0 ≤ d ∧ d ≤ t.days - 1) :
    Calls Try.prog 12 #[t.val, .int .i64 (k : Int), .int .i64 d] w fun e w' => e = .returned (.tuple #[.int .i64 (dayE (twE t (k : Int)) d), .int .i64 0]) ∧ Below w.heap.size w w' := by
  have hx := ext_alloc w (.cells t.cells.toArray 33)
  have hT := Blk.new w 33 t.cells
  have C1 := Lib.hid (fun V (hV : Below w.heap.size w V) => rvalid_t t V (hM.ext hV) ht hca)
  have C2 := Lib.hid (fun V => played_any t (k : Int) V ht.n9)
  have hq : btwE (k : Int) 1 ((t.tw.length : Int) - 1) = true := decide_eq_true (by omega)
  rw [hq] at C2
  have hdy := ht.days
  have C3 := Lib.hid (fun V => rwithin_t (show 0 ≤ d ∧ d ≤ t.days - 1 from hd) V)
  have e1 : wrap64 (t.days - 1) = t.days - 1 := by unfold wrap64; omega
  obtain ⟨hk1, hkt⟩ := hk
  have hk0 : (0 : Int) ≤ (k : Int) := by omega
  have hkn : (k : Int) < (t.tw.length : Int) := by omega
  have htw : twE t (k : Int) = (t.tw[k]).x := by unfold twE; rw [Int.toNat_natCast, getD_at _ hkt]
  have hok := ht.town k (by omega) hkt
  rw [getD_at _ hkt] at hok
  obtain ⟨b, off, hA, hc⟩ := tw_at hM.tw hkt
  have hvM := hM.town _ (List.getElem_mem hkt)
  have r0 := hc 0 _ rfl
  have r1 := hc 1 _ rfl
  have r2 := hc 2 _ rfl
  have r3 := hc 3 _ rfl
  have r4 := hc 4 _ rfl
  have r5 := hc 5 _ rfl
  have r6 := hc 6 _ rfl
  have r7 := hc 7 _ rfl
  have r8 := hc 8 _ rfl
  rw [htw]
  clear htw hc hq hM ht hd hk1
  generalize t.tw[k] = v at *
  have C4 := Lib.hid (fun V (hV : Below w.heap.size w V) => day_any v d t.days V (hvM.ext hV) hok)
  clear hvM hok
  generalize dayE v.x d = y at *
  obtain ⟨⟨opn, slo, shi, pay, lot, rent, riv, cold, cut⟩, O, co, R, cr⟩ := v
  unfold TrV.val TrV.cells TwV.val at *
  simp only at r0 r1 r2 r3 r4 r5 r6 r7 r8 C4 ⊢
  simp only [Nat.add_zero] at r0
  generalize opn.length = no at *
  generalize riv.length = nr at *
  rw [hA] at hT hx C1 C2 ⊢
  clear hA
  go_enter Try.func12, Try.ntmps12
  go_upto_block 0 with fail
  change Blk (w.alloc (.cells #[.int .i64 t.days, .int .i64 t.shift, .int .i64 t.size, .slice (some ⟨b, off, none⟩) t.tw.length t.ca, .slice t.B t.lg.length t.cb] 33)) _ _ _ at hT
  change Below w.heap.size w (w.alloc (.cells #[.int .i64 t.days, .int .i64 t.shift, .int .i64 t.size, .slice (some ⟨b, off, none⟩) t.tw.length t.ca, .slice t.B t.lg.length t.cb] 33)) at hx
  generalize (w.alloc (.cells #[.int .i64 t.days, .int .i64 t.shift, .int .i64 t.size, .slice (some ⟨b, off, none⟩) t.tw.length t.ca, .slice t.B t.lg.length t.cb] 33)) = W1 at *
  have b0 : W1.cell? ⟨w.heap.size, 0, none⟩ = _ := hT.cell (i := 0) rfl
  have b1 : W1.cell? ⟨w.heap.size, 1, none⟩ = _ := hT.cell (i := 1) rfl
  have b2 : W1.cell? ⟨w.heap.size, 2, none⟩ = _ := hT.cell (i := 2) rfl
  have b3 : W1.cell? ⟨w.heap.size, 3, none⟩ = _ := hT.cell (i := 3) rfl
  have b4 : W1.cell? ⟨w.heap.size, 4, none⟩ = _ := hT.cell (i := 4) rfl
  go_wp2_with fail
  refine (C1.out _ hx).mono ?_; rintro e W2 ⟨rfl, hb2⟩
  have hx2 := ext_trans hx hb2
  have hT2 := hT.ext hb2
  clear b0 b1 b2 b3 b4 hT hx hb2
  have b0 : W2.cell? ⟨w.heap.size, 0, none⟩ = _ := hT2.cell (i := 0) rfl
  have b1 : W2.cell? ⟨w.heap.size, 1, none⟩ = _ := hT2.cell (i := 1) rfl
  have b2 : W2.cell? ⟨w.heap.size, 2, none⟩ = _ := hT2.cell (i := 2) rfl
  have b3 : W2.cell? ⟨w.heap.size, 3, none⟩ = _ := hT2.cell (i := 3) rfl
  have b4 : W2.cell? ⟨w.heap.size, 4, none⟩ = _ := hT2.cell (i := 4) rfl
  go_wp2_with fail
  refine (C2.out _).mono ?_; rintro e W3 ⟨rfl, hb3⟩
  have hx3 := ext_trans hx2 hb3
  have hT3 := hT2.ext hb3
  clear b0 b1 b2 b3 b4 hT2 hx2 hb3
  have b0 : W3.cell? ⟨w.heap.size, 0, none⟩ = _ := hT3.cell (i := 0) rfl
  have b3 : W3.cell? ⟨w.heap.size, 3, none⟩ = _ := hT3.cell (i := 3) rfl
  have r0 := cell_ext r0 hx3
  have r1 := cell_ext r1 hx3
  have r2 := cell_ext r2 hx3
  have r3 := cell_ext r3 hx3
  have r4 := cell_ext r4 hx3
  have r5 := cell_ext r5 hx3
  have r6 := cell_ext r6 hx3
  have r7 := cell_ext r7 hx3
  have r8 := cell_ext r8 hx3
  go_wp2_with fail
  refine (C3.out _).mono ?_; rintro e w1 ⟨rfl, rfl⟩
  go_wp2_with fail
  refine (C4.out _ hx3).mono ?_; rintro e W4 ⟨rfl, hb4⟩
  go_wp2
  refine bodyPost_ret (v := .tuple #[.int .i64 y, .int .i64 0]) (by simp [results, Try.results12, go_sem]) rfl ?_
  exact ⟨rfl, ext_trans hx3 hb4⟩
end Go.Proofs.Ytilkoooahoecfaa.Er

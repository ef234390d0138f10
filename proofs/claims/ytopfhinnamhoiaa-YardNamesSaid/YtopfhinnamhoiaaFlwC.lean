/- Walk: CheckGrid, and the law YardFlows. -/
import Derived.Deep.DeepCutAuto
import Derived.Maps.RangeWalk
import Derived.Test.YtopfhinnamhoiaaFlwB
namespace Go.Proofs.Ytopfhinnamhoiaa
open Go.RowKit Go.Bs Go.Yd Go.Pl Go.Sort

theorem CheckGrid_any (g : Gd) (A : Option Addr) (n cap : Nat) (w : World) (hn : g.nodes.length = n) (hm : n ≤ 9223372036854775807) (hd : GdAt w A g) :
    Calls Try.prog 45 #[.agg #[.slice A n cap, .int .i64 g.limit]] w fun e w' => e = .returned (.int .i64 (if g.okB then 0 else 1)) ∧ Below w.heap.size w w' := by
  have hb0 := ext_alloc w (.cells #[.slice A n cap, .int .i64 g.limit] 43)
  have HV := Lib.hid (gvalid_any g A n cap _ hn hm (hd.ext hb0))
  cases hv : g.okB
  · rw [hv] at HV
    clear hv
    go_enter Try.func45, Try.ntmps45
    go_wp2_with fail
    refine HV.out.mono ?_; rintro e w1 ⟨rfl, hb1⟩
    go_wp2
    go_ret
    exact ⟨rfl, ext_trans hb0 hb1⟩
  · rw [hv] at HV
    clear hv
    go_enter Try.func45, Try.ntmps45
    go_wp2_with fail
    refine HV.out.mono ?_; rintro e w1 ⟨rfl, hb1⟩
    go_wp2
    go_ret
    exact ⟨rfl, ext_trans hb0 hb1⟩

def flg (g : Gd) (k : Nat) : Nat → Bool
  | 0 => Gd.blowB g (Gd.fhi g) k
  | 1 => Gd.blowB g (Gd.flo g) k
  | 2 => Gd.lowB g (Gd.dhi g) k
  | 3 => Gd.lowB g (Gd.dlo g) k
  | _ => false
def Lk (g : Gd) (k : Nat) : Nat → List Int
  | 0 => natsI (overN (Gd.fuseOf g) (Gd.fhi g) k)
  | 1 => natsI (overN (Gd.fuseOf g) (Gd.flo g) k)
  | 2 => natsI (overN (fun _ => g.limit) (Gd.dhi g) k)
  | 3 => natsI (overN (fun _ => g.limit) (Gd.dlo g) k)
  | _ => []
theorem over_step (lim f : Nat → Int) (k : Nat) (b : Bool) (hb : b = true ↔ lim k < f k) : (if b = true then natsI (overN lim f k) ++ [(k : Int)] else natsI (overN lim f k)) = natsI (overN lim f (k + 1)) := by
  rw [overN_succ]
  by_cases h : lim k < f k
  · rw [if_pos (hb.2 h), if_pos h, natsI_snoc]
  · rw [if_neg (fun q => h (hb.1 q)), if_neg h]
theorem blow_iff {g : Gd} {f : Nat → Int} {k : Nat} (hf : f k ≤ 60000000) : Gd.blowB g f k = true ↔ Gd.fuseOf g k < f k := by
  unfold Gd.blowB Gd.fuseOf
  rw [decide_eq_true_eq]
  by_cases h : k = 0
  · rw [if_pos h]; omega
  · rw [if_neg h]; omega
theorem Lk_step {g : Gd} (hok : g.ok) (k : Nat) : stp (Lk g k) (flg g k) k 4 = Lk g (k + 1) := by
  have hf := (Gd.ok_fit hok).fl k
  funext j
  rcases j with _ | _ | _ | _ | j
  · have h : stp (Lk g k) (flg g k) k 4 0 = if flg g k 0 = true then Lk g k 0 ++ [(k : Int)] else Lk g k 0 := by simp [stp]
    rw [h]
    exact over_step _ _ k _ (blow_iff (by omega))
  · have h : stp (Lk g k) (flg g k) k 4 1 = if flg g k 1 = true then Lk g k 1 ++ [(k : Int)] else Lk g k 1 := by simp [stp]
    rw [h]
    exact over_step _ _ k _ (blow_iff (by omega))
  · have h : stp (Lk g k) (flg g k) k 4 2 = if flg g k 2 = true then Lk g k 2 ++ [(k : Int)] else Lk g k 2 := by simp [stp]
    rw [h]
    exact over_step _ _ k _ (by unfold flg Gd.lowB; simp)
  · have h : stp (Lk g k) (flg g k) k 4 3 = if flg g k 3 = true then Lk g k 3 ++ [(k : Int)] else Lk g k 3 := by simp [stp]
    rw [h]
    exact over_step _ _ k _ (by unfold flg Gd.lowB; simp)
  · have h : stp (Lk g k) (flg g k) k 4 (j + 4) = Lk g k (j + 4) := by unfold stp; rw [if_neg (by omega)]
    rw [h]
    rfl
theorem Lk_len (g : Gd) (k j : Nat) : (Lk g k j).length ≤ k := by
  unfold Lk
  split
  · rw [natsI_len]; exact overN_len _ _ _
  · rw [natsI_len]; exact overN_len _ _ _
  · rw [natsI_len]; exact overN_len _ _ _
  · rw [natsI_len]; exact overN_len _ _ _
  · simp

set_option maxRecDepth 100000 in
set_option maxHeartbeats 16000000 in
theorem flows_ok (g : Gd) (hok : g.ok) (hv : g.okB = true) (A : Option Addr) (n cap : Nat) (w : World) (hn : g.nodes.length = n) (hd : GdAt w A g) :
    Calls Try.prog 9 #[.agg #[.slice A n cap, .int .i64 g.limit]] w fun e w' => e = .returned (.bool true) ∧ Below w.heap.size w w' := by
  have hlen := hok.len
  have hb0 := ext_alloc w (.cells #[.slice A n cap, .int .i64 g.limit] 37)
  have hB := Blk.new w 37 [.slice A n cap, .int .i64 g.limit]
  have Hn := Lib.hid hn
  have hwr := wires_any A n cap g.limit (w.alloc (.cells #[.slice A n cap, .int .i64 g.limit] 37)) (by omega)
  rw [decide_eq_true (show n ≤ 33 by omega)] at hwr
  have Hwr := Lib.hid hwr
  have Hv := Lib.hid hv
  have hfl : flowsR g = (rngs (Gd.flo g) (Gd.fhi g) n, rngs (Gd.dlo g) (Gd.dhi g) n, 0) := by unfold flowsR; rw [hv, hn]; rfl
  have h1 : blownR g = (Lk g n 0, Lk g n 1, 0) := by unfold blownR; rw [hv, hn]; rfl
  have h2 : lowR g = (Lk g n 2, Lk g n 3, 0) := by unfold lowR; rw [hv, hn]; rfl
  have Hfl := Lib.hid hfl
  have H1 := Lib.hid h1
  have H2 := Lib.hid h2
  have HL := Lib.hid (Lk_len g)
  have HS := Lib.hid (fun k => Lk_step hok k)
  clear hwr hv hfl h1 h2
  go_enter Try.func9, Try.ntmps9
  go_wp2_with fail
  refine Hwr.out.mono ?_; rintro e w1 ⟨rfl, hb1⟩
  have hb4 := ext_trans hb0 hb1
  have hB4 := hB.ext hb1
  have x2 : w1.cell? ⟨w.heap.size, 0, none⟩ = _ := hB4.cell rfl
  have x3 : w1.cell? ⟨w.heap.size, 1, none⟩ = _ := hB4.cell rfl
  clear hb0 hb1 hB Hwr
  go_wp2_with fail
  refine (Grid_any g A n cap w1 hn (by omega) (hd.ext hb4)).mono ?_; rintro e w3 ⟨v, rfl, hv, hb5⟩
  obtain ⟨A1, c1, rfl, hc1, -, hC, -⟩ := hv
  rw [hn] at hc1 ⊢
  have hb6 := ext_trans hb4 hb5
  have hB6 := hB4.ext hb5
  clear hb4 hb5 hB4 x2 x3
  go_wp2_with fail
  refine (Flows_any g A1 n c1 w3 hn (by omega) hc1 hC).mono ?_; rintro e w4 ⟨v, x, rfl, hv, hx, hb7⟩
  rw [Hfl.out] at hv hx
  rw [Hfl.out]
  obtain ⟨Af, cf, rfl, -, -, hFl, -⟩ := hv
  obtain ⟨Ag, cg, rfl, -, -, hDr, -⟩ := hx
  simp only [rngs_len]
  have hb8 := ext_trans hb6 hb7
  have hB8 := hB6.ext hb7
  have x0 : w4.cell? ⟨w.heap.size, 0, none⟩ = _ := hB8.cell rfl
  have x1 : w4.cell? ⟨w.heap.size, 1, none⟩ = _ := hB8.cell rfl
  clear hb6 hb7 hB6 hC hc1
  go_wp2_with fail
  refine (Grid_any g A n cap w4 hn (by omega) (hd.ext hb8)).mono ?_; rintro e w5 ⟨v, rfl, hv, hb9⟩
  obtain ⟨A2, c2, rfl, hc2, -, hC, -⟩ := hv
  rw [hn] at hc2 ⊢
  have hb10 := ext_trans hb8 hb9
  have hB10 := hB8.ext hb9
  have hFl2 := hFl.ext hb9
  have hDr2 := hDr.ext hb9
  clear hb8 hb9 hB8 x0 x1 hFl hDr
  go_wp2_with fail
  refine (Blown_any g A2 n c2 w5 hn (by omega) hc2 hC).mono ?_; rintro e w6 ⟨v, x, rfl, hv, hx, hb11⟩
  rw [H1.out] at hv hx
  rw [H1.out]
  obtain ⟨Aa, ca, rfl, -, -, ha, -⟩ := hv
  obtain ⟨Ab, cb, rfl, -, -, hb, -⟩ := hx
  have hb12 := ext_trans hb10 hb11
  have hB12 := hB10.ext hb11
  have hFl3 := hFl2.ext hb11
  have hDr3 := hDr2.ext hb11
  have x0 : w6.cell? ⟨w.heap.size, 0, none⟩ = _ := hB12.cell rfl
  have x1 : w6.cell? ⟨w.heap.size, 1, none⟩ = _ := hB12.cell rfl
  clear hb10 hb11 hB10 hC hc2 hFl2 hDr2
  go_wp2_with fail
  refine (Grid_any g A n cap w6 hn (by omega) (hd.ext hb12)).mono ?_; rintro e w7 ⟨v, rfl, hv, hb13⟩
  obtain ⟨A3, c3, rfl, hc3, -, hC, -⟩ := hv
  rw [hn] at hc3 ⊢
  have hb14 := ext_trans hb12 hb13
  have hB14 := hB12.ext hb13
  have hFl4 := hFl3.ext hb13
  have hDr4 := hDr3.ext hb13
  have ha4 := ha.ext hb13
  have hb4' := hb.ext hb13
  clear hb12 hb13 hB12 x0 x1 hFl3 hDr3 ha hb
  go_wp2_with fail
  refine (Low_any g A3 n c3 w7 hn (by omega) hc3 hC).mono ?_; rintro e w8 ⟨v, x, rfl, hv, hx, hb15⟩
  rw [H2.out] at hv hx
  rw [H2.out]
  obtain ⟨Ac, cc, rfl, -, -, hc, -⟩ := hv
  obtain ⟨Ad, cd, rfl, -, -, hdd, -⟩ := hx
  simp only
  have hb16 := ext_trans hb14 hb15
  have hB16 := hB14.ext hb15
  have hFl5 := hFl4.ext hb15
  have hDr5 := hDr4.ext hb15
  have ha5 := ha4.ext hb15
  have hb5' := hb4'.ext hb15
  have x0 : w8.cell? ⟨w.heap.size, 0, none⟩ = _ := hB16.cell rfl
  have x1 : w8.cell? ⟨w.heap.size, 1, none⟩ = _ := hB16.cell rfl
  clear hb14 hb15 hB14 hC hc3 hFl4 hDr4 ha4 hb4' Hfl H1 H2
  go_wp2_with fail
  refine (RightGrid_any g A n cap w8 hn (by omega) (hd.ext hb16)).mono ?_; rintro e w9 ⟨rfl, hb17⟩
  rw [Hv.out]
  have hb18 := ext_trans hb16 hb17
  have hB18 := hB16.ext hb17
  have hFl6 := hFl5.ext hb17
  have hDr6 := hDr5.ext hb17
  have ha6 := ha5.ext hb17
  have hb6' := hb5'.ext hb17
  have hc6 := hc.ext hb17
  have hd6 := hdd.ext hb17
  have x2 : w9.cell? ⟨w.heap.size, 0, none⟩ = _ := hB18.cell rfl
  have x3 : w9.cell? ⟨w.heap.size, 1, none⟩ = _ := hB18.cell rfl
  clear hb16 hb17 hB16 hFl5 hDr5 ha5 hb5' hc hdd x0 x1
  go_wp2_with fail
  refine (Grid_any g A n cap w9 hn (by omega) (hd.ext hb18)).mono ?_; rintro e w10 ⟨v, rfl, hv, hb19⟩
  obtain ⟨A4, c4, rfl, hc4, -, hC, -⟩ := hv
  rw [hn] at hc4 ⊢
  have hb20 := ext_trans hb18 hb19
  have hB20 := hB18.ext hb19
  have hFl7 := hFl6.ext hb19
  have hDr7 := hDr6.ext hb19
  have ha7 := ha6.ext hb19
  have hb7' := hb6'.ext hb19
  have hc7 := hc6.ext hb19
  have hd7 := hd6.ext hb19
  clear hb18 hb19 hB18 hFl6 hDr6 ha6 hb6' hc6 hd6 x2 x3
  go_wp2_with fail
  refine (CheckGrid_any g A4 n c4 w10 hn (by omega) hC).mono ?_; rintro e W0 ⟨rfl, hb21⟩
  rw [Hv.out, if_pos rfl]
  have hbW := ext_trans hb20 hb21
  have hBW := hB20.ext hb21
  have hFl := hFl7.ext hb21
  have hDr := hDr7.ext hb21
  have ha := ha7.ext hb21
  have hb := hb7'.ext hb21
  have hc := hc7.ext hb21
  have hdd := hd7.ext hb21
  have x0 : W0.cell? ⟨w.heap.size, 0, none⟩ = _ := hBW.cell rfl
  clear hb20 hb21 hB20 hFl7 hDr7 ha7 hb7' hc7 hd7 hC hc4
  have hS : FlwI W0 (W0.alloc (.cells #[.slice none 0 0, .slice none 0 0, .slice none 0 0, .slice none 0 0] 80)) (Lk g 0) (fun _ => .slice none 0 0) := by
    refine ⟨ext_alloc W0 _, Blk.new W0 80 [.slice none 0 0, .slice none 0 0, .slice none 0 0, .slice none 0 0], fun j hj => ?_, fun i j _ _ _ => .inl (by simp [Value.ownBlock])⟩
    have : Lk g 0 j = [] := by
      have := HL.out 0 j
      exact List.length_eq_zero_iff.1 (by omega)
    rw [this]
    exact OwnL.nil
  go_upto_region 11 with fail
  clear x0
  generalize W0.alloc (.cells #[.slice none 0 0, .slice none 0 0, .slice none 0 0, .slice none 0 0] 80) = W1 at *
  have x0 : W1.cell? ⟨w.heap.size, 0, none⟩ = _ := (hBW.ext hS.bl).cell rfl
  go_wp2
  go_loopw [13] (fun x wr => ∃ (k : Nat) (V : Nat → Value), x = .int .i64 k ∧ k ≤ n ∧ FlwI W0 wr (Lk g k) V) (fun x _ => n - (intOf x).toNat)
  case atStart => exact ⟨0, _, rfl, by omega, hS⟩
  case round =>
    clear hS x0
    obtain ⟨k, V, rfl, hk, hS⟩ := hrel
    have x0 : wr.cell? ⟨w.heap.size, 0, none⟩ = _ := (hBW.ext hS.bl).cell rfl
    by_cases hlt : k < n
    · have hlt' : (k : Int) < (n : Int) := by omega
      have hk0 : (0 : Int) ≤ (k : Int) := by omega
      go_upto_region 14 with fail
      refine flows_r14 g (Gd.ok_fit hok) A n cap k w wr hn hlt hd (ext_trans hbW hS.bl) (hBW.ext hS.bl) _ _ _ rfl ?_
      intro v127 v128 v129 v130 v131 v132 P1 P2 W2 hb2 k1 k2
      dsimp only
      have hS2 := hS.ext hb2
      clear hS x0
      go_upto_region 15 with fail
      refine Dr.wp_region_plan 38 [] (.q [0, 1, 2, 3, 4, 5, 6, 7, 8, 9, 10, 11, 12, 13, 14, 15, 16, 17, 18, 19, 20, 21, 22, 23, 24, 25, 26, 27, 28, 29, 30, 31, 32, 33, 34, 35, 36, 37] .done) (by kernel_rfl) (by kernel_rfl) ?_
      have hS3 := hS2.ext (ext_drew W2)
      have k3 := k1.ext (ext_drew W2)
      have k4 := k2.ext (ext_drew W2)
      clear hS2 k1 k2 hb2
      generalize World.drew _ = W3 at *
      have er : Rng.enc ((rngs (Gd.flo g) (Gd.fhi g) n)[k]'(by rw [rngs_len]; exact hlt)) = [.int .i64 (Gd.flo g k), .int .i64 (Gd.fhi g k)] := by simp [rngs, Rng.enc]
      have er2 : Rng.enc ((rngs (Gd.dlo g) (Gd.dhi g) n)[k]'(by rw [rngs_len]; exact hlt)) = [.int .i64 (Gd.dlo g k), .int .i64 (Gd.dhi g k)] := by simp [rngs, Rng.enc]
      obtain ⟨bf, of, rfl, -, e0, e1⟩ := (hFl.ext hS3.bl).at2 (k := k) (by rw [rngs_len]; exact hlt) er
      obtain ⟨bg, og, rfl, -, e2, e3⟩ := (hDr.ext hS3.bl).at2 (k := k) (by rw [rngs_len]; exact hlt) er2
      have q0 := Dr.cell0 (k3.cell (i := 0) rfl)
      have q1 := Dr.cell0 (k3.cell (i := 1) rfl)
      have q2 := Dr.cell0 (k4.cell (i := 0) rfl)
      have q3 := Dr.cell0 (k4.cell (i := 1) rfl)
      have q4 := Dr.cell0 e0
      have q5 := Dr.cell0 e1
      have q6 := Dr.cell0 e2
      have q7 := Dr.cell0 e3
      clear er er2 e0 e1 e2 e3
      refine Dr.plan_q (l := (_ :: _ :: _ :: _ :: _ :: _ :: _ :: _ :: _ :: _ :: _ :: _ :: _ :: _ :: _ :: _ :: _ :: _ :: _ :: _ :: _ :: _ :: _ :: _ :: _ :: _ :: _ :: _ :: _ :: _ :: _ :: _ :: _ :: _ :: _ :: _ :: _ :: _ :: [])) rfl (fun K hK => ?_)
      iterate 38 (go_big_quiet_step (fail))
      refine wpQuiet_nil (hK _ ?_); clear hK K
      refine Dr.plan_end rfl ?_
      clear q0 q1 q2 q3 q4 q5 q6 q7 k3 k4
      have x0 : W3.cell? ⟨w.heap.size, 0, none⟩ = _ := (hBW.ext hS3.bl).cell rfl
      have x1 : W3.cell? ⟨w.heap.size, 1, none⟩ = _ := (hBW.ext hS3.bl).cell rfl
      go_wp2_with fail
      refine (BlownR_any g (Gd.ok_fit hok) A n cap k W3 hn hlt (hd.ext (ext_trans hbW hS3.bl))).mono ?_
      rintro e W4 ⟨rfl, hb5⟩
      have hS5 := hS3.ext hb5
      clear hS3 hb5 x0 x1
      have x0 : W4.cell? ⟨w.heap.size, 0, none⟩ = _ := (hBW.ext hS5.bl).cell rfl
      have x1 : W4.cell? ⟨w.heap.size, 1, none⟩ = _ := (hBW.ext hS5.bl).cell rfl
      go_wp2_with fail
      refine (LowR_any g (Gd.ok_fit hok) A n cap k W4 hn hlt (hd.ext (ext_trans hbW hS5.bl))).mono ?_
      rintro e W5 ⟨rfl, hb6⟩
      have hS6 := hS5.ext hb6
      clear hS5 hb6 x0 x1
      go_wp2
      have hstp := HS.out k
      have t0 : Gd.blowB g (Gd.fhi g) k = flg g k 0 := rfl
      have t1 : Gd.blowB g (Gd.flo g) k = flg g k 1 := rfl
      have t2 : Gd.lowB g (Gd.dhi g) k = flg g k 2 := rfl
      have t3 : Gd.lowB g (Gd.dlo g) k = flg g k 3 := rfl
      rw [t0, t1, t2, t3]
      clear t0 t1 t2 t3
      generalize flg g k = fl at *
      refine flows_inner w W0 W5 (Lk g k) V fl k (by omega) (fun j _ => HL.out k j) hS6 _ _ rfl ?_
      rw [hstp]
      intros
      rename_i V' W6 hS7
      dsimp only
      go_wp2
      go_roundw
      case rel => exact ⟨k + 1, V', by go_num, by omega, hS7⟩
      case measure => simp [intOf]; omega
    · obtain rfl : k = n := by omega
      have hbr := ext_trans hbW hS.bl
      have y0 := hS.at (j := 0) (by omega)
      have y1 := hS.at (j := 1) (by omega)
      have y2 := hS.at (j := 2) (by omega)
      have y3 := hS.at (j := 3) (by omega)
      obtain ⟨B0, e0, hv0, -, -, hC0⟩ := (hS.own 0 (by omega)).cells encI_len
      obtain ⟨B1, e1, hv1, -, -, hC1⟩ := (hS.own 1 (by omega)).cells encI_len
      obtain ⟨B2, e2, hv2, -, -, hC2⟩ := (hS.own 2 (by omega)).cells encI_len
      obtain ⟨B3, e3, hv3, -, -, hC3⟩ := (hS.own 3 (by omega)).cells encI_len
      rw [hv0] at y0
      rw [hv1] at y1
      rw [hv2] at y2
      rw [hv3] at y3
      have l0 := HL.out k 0
      have l1 := HL.out k 1
      have l2 := HL.out k 2
      have l3 := HL.out k 3
      have ha := ha.ext hS.bl
      have hb := hb.ext hS.bl
      have hc := hc.ext hS.bl
      have hdd := hdd.ext hS.bl
      clear hS hv0 hv1 hv2 hv3 HL HS
      generalize Lk g k 0 = m0 at *
      generalize Lk g k 1 = m1 at *
      generalize Lk g k 2 = m2 at *
      generalize Lk g k 3 = m3 at *
      go_wp2_with fail
      refine (ints_any Aa B0 _ _ ca e0 m0 m0 wr rfl rfl (by omega) (by omega) ha hC0).mono ?_; rintro e z1 ⟨rfl, hz1⟩
      rw [decide_eq_true (rfl : m0 = m0)]
      have y1' := cell_ext y1 hz1
      have y2' := cell_ext y2 hz1
      have y3' := cell_ext y3 hz1
      clear y0 y1 y2 y3
      go_wp2_with fail
      refine (ints_any Ab B1 _ _ cb e1 m1 m1 z1 rfl rfl (by omega) (by omega) (hb.ext hz1) (hC1.ext hz1)).mono ?_; rintro e z2 ⟨rfl, hz2⟩
      rw [decide_eq_true (rfl : m1 = m1)]
      have y2 := cell_ext y2' hz2
      have y3 := cell_ext y3' hz2
      have hz12 := ext_trans hz1 hz2
      clear y1' y2' y3' hz1 hz2
      go_wp2_with fail
      refine (ints_any Ac B2 _ _ cc e2 m2 m2 z2 rfl rfl (by omega) (by omega) (hc.ext hz12) (hC2.ext hz12)).mono ?_; rintro e z3 ⟨rfl, hz3⟩
      rw [decide_eq_true (rfl : m2 = m2)]
      have y3' := cell_ext y3 hz3
      have hz13 := ext_trans hz12 hz3
      clear y2 y3 hz12 hz3
      go_wp2_with fail
      refine (ints_any Ad B3 _ _ cd e3 m3 m3 z3 rfl rfl (by omega) (by omega) (hdd.ext hz13) (hC3.ext hz13)).mono ?_; rintro e z4 ⟨rfl, hz4⟩
      rw [decide_eq_true (rfl : m3 = m3)]
      go_wp2_with fail
      refine (wakes_any _).mono ?_; rintro e z5 ⟨rfl, hz5⟩
      go_wp2
      go_ret
      exact ⟨rfl, ext_trans (ext_trans (ext_trans hbr hz13) hz4) hz5⟩

set_option maxRecDepth 100000 in
set_option maxHeartbeats 8000000 in
theorem flows_law (g : Gd) (A : Option Addr) (n cap : Nat) (w : World) (hn : g.nodes.length = n) (hm : n ≤ 9223372036854775807) (hd : GdAt w A g) :
    Calls Try.prog 9 #[.agg #[.slice A n cap, .int .i64 g.limit]] w fun e w' => e = .returned (.bool true) ∧ Below w.heap.size w w' := by
  cases hv : g.okB
  · have hb0 := ext_alloc w (.cells #[.slice A n cap, .int .i64 g.limit] 37)
    have hB := Blk.new w 37 [.slice A n cap, .int .i64 g.limit]
    have hwr := wires_any A n cap g.limit (w.alloc (.cells #[.slice A n cap, .int .i64 g.limit] 37)) hm
    by_cases h33 : n ≤ 33
    · rw [decide_eq_true h33] at hwr
      have Hwr := Lib.hid hwr
      have Hv := Lib.hid hv
      have hfl : flowsR g = ([], [], 1) := by unfold flowsR; rw [hv]; rfl
      have h1 : blownR g = ([], [], 1) := by unfold blownR; rw [hv]; rfl
      have h2 : lowR g = ([], [], 1) := by unfold lowR; rw [hv]; rfl
      have Hfl := Lib.hid hfl
      have H1 := Lib.hid h1
      have H2 := Lib.hid h2
      clear hwr hv hfl h1 h2
      go_enter Try.func9, Try.ntmps9
      go_wp2_with fail
      refine Hwr.out.mono ?_; rintro e w1 ⟨rfl, hb1⟩
      have hb4 := ext_trans hb0 hb1
      have hB4 := hB.ext hb1
      have x2 : w1.cell? ⟨w.heap.size, 0, none⟩ = _ := hB4.cell rfl
      have x3 : w1.cell? ⟨w.heap.size, 1, none⟩ = _ := hB4.cell rfl
      clear hb0 hb1 hB Hwr
      go_wp2_with fail
      refine (Grid_any g A n cap w1 hn (by omega) (hd.ext hb4)).mono ?_; rintro e w3 ⟨v, rfl, hv, hb5⟩
      obtain ⟨A1, c1, rfl, hc1, -, hC, -⟩ := hv
      rw [hn] at hc1 ⊢
      have hb6 := ext_trans hb4 hb5
      have hB6 := hB4.ext hb5
      clear hb4 hb5 hB4 x2 x3
      go_wp2_with fail
      refine (Flows_any g A1 n c1 w3 hn (by omega) hc1 hC).mono ?_; rintro e w4 ⟨v, x, rfl, hv, hx, hb7⟩
      rw [Hfl.out] at hv hx
      rw [Hfl.out]
      obtain ⟨Af, cf, rfl, -⟩ := hv
      obtain ⟨Ag, cg, rfl, -⟩ := hx
      simp only [List.length_nil]
      have hb8 := ext_trans hb6 hb7
      have hB8 := hB6.ext hb7
      have x0 : w4.cell? ⟨w.heap.size, 0, none⟩ = _ := hB8.cell rfl
      have x1 : w4.cell? ⟨w.heap.size, 1, none⟩ = _ := hB8.cell rfl
      clear hb6 hb7 hB6 hC hc1
      go_wp2_with fail
      refine (Grid_any g A n cap w4 hn (by omega) (hd.ext hb8)).mono ?_; rintro e w5 ⟨v, rfl, hv, hb9⟩
      obtain ⟨A2, c2, rfl, hc2, -, hC, -⟩ := hv
      rw [hn] at hc2 ⊢
      have hb10 := ext_trans hb8 hb9
      have hB10 := hB8.ext hb9
      clear hb8 hb9 hB8 x0 x1
      go_wp2_with fail
      refine (Blown_any g A2 n c2 w5 hn (by omega) hc2 hC).mono ?_; rintro e w6 ⟨v, x, rfl, hv, hx, hb11⟩
      rw [H1.out] at hv hx
      rw [H1.out]
      obtain ⟨Aa, ca, rfl, -⟩ := hv
      obtain ⟨Ab, cb, rfl, -⟩ := hx
      simp only [List.length_nil]
      have hb12 := ext_trans hb10 hb11
      have hB12 := hB10.ext hb11
      have x0 : w6.cell? ⟨w.heap.size, 0, none⟩ = _ := hB12.cell rfl
      have x1 : w6.cell? ⟨w.heap.size, 1, none⟩ = _ := hB12.cell rfl
      clear hb10 hb11 hB10 hC hc2
      go_wp2_with fail
      refine (Grid_any g A n cap w6 hn (by omega) (hd.ext hb12)).mono ?_; rintro e w7 ⟨v, rfl, hv, hb13⟩
      obtain ⟨A3, c3, rfl, hc3, -, hC, -⟩ := hv
      rw [hn] at hc3 ⊢
      have hb14 := ext_trans hb12 hb13
      have hB14 := hB12.ext hb13
      clear hb12 hb13 hB12 x0 x1
      go_wp2_with fail
      refine (Low_any g A3 n c3 w7 hn (by omega) hc3 hC).mono ?_; rintro e w8 ⟨v, x, rfl, hv, hx, hb15⟩
      rw [H2.out] at hv hx
      rw [H2.out]
      obtain ⟨Ac, cc, rfl, -⟩ := hv
      obtain ⟨Ad, cd, rfl, -⟩ := hx
      simp only [List.length_nil]
      have hb16 := ext_trans hb14 hb15
      have hB16 := hB14.ext hb15
      have x0 : w8.cell? ⟨w.heap.size, 0, none⟩ = _ := hB16.cell rfl
      have x1 : w8.cell? ⟨w.heap.size, 1, none⟩ = _ := hB16.cell rfl
      clear hb14 hb15 hB14 hC hc3 Hfl H1 H2
      go_wp2_with fail
      refine (RightGrid_any g A n cap w8 hn (by omega) (hd.ext hb16)).mono ?_; rintro e w9 ⟨rfl, hb17⟩
      rw [Hv.out]
      have hb18 := ext_trans hb16 hb17
      have hB18 := hB16.ext hb17
      have x2 : w9.cell? ⟨w.heap.size, 0, none⟩ = _ := hB18.cell rfl
      have x3 : w9.cell? ⟨w.heap.size, 1, none⟩ = _ := hB18.cell rfl
      clear hb16 hb17 hB16 x0 x1
      go_wp2_with fail
      refine (Grid_any g A n cap w9 hn (by omega) (hd.ext hb18)).mono ?_; rintro e w10 ⟨v, rfl, hv, hb19⟩
      obtain ⟨A4, c4, rfl, hc4, -, hC, -⟩ := hv
      rw [hn] at hc4 ⊢
      have hb20 := ext_trans hb18 hb19
      clear hb18 hb19 hB18 x2 x3
      go_wp2_with fail
      refine (CheckGrid_any g A4 n c4 w10 hn (by omega) hC).mono ?_; rintro e w11 ⟨rfl, hb21⟩
      rw [Hv.out]
      simp only [Bool.false_eq_true, if_false]
      have hb22 := ext_trans hb20 hb21
      go_wp2_with fail
      refine (wakes_any _).mono ?_; rintro e w12 ⟨rfl, hb23⟩
      go_wp2
      go_ret
      exact ⟨rfl, ext_trans hb22 hb23⟩
    · rw [decide_eq_false h33] at hwr
      have Hwr := Lib.hid hwr
      clear hwr hd hn hv
      go_enter Try.func9, Try.ntmps9
      go_wp2_with fail
      refine Hwr.out.mono ?_; rintro e w1 ⟨rfl, hb1⟩
      go_wp2_with fail
      refine (wakes_any _).mono ?_; rintro e w2 ⟨rfl, hb2⟩
      go_wp2
      go_ret
      exact ⟨rfl, ext_trans (ext_trans hb0 hb1) hb2⟩
  · exact flows_ok g ((Gd.okB_iff g).1 hv) hv A n cap w hn hd
end Go.Proofs.Ytopfhinnamhoiaa

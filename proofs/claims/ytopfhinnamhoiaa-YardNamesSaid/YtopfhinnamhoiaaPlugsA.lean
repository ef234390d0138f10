/- Walk: fine, and the law YardPlugs. -/
import Derived.Deep.DeepCutAuto
import Derived.Test.YtopfhinnamhoiaaGridR
namespace Go.Proofs.Ytopfhinnamhoiaa
open Go.RowKit Go.Bs Go.Yd Go.Pl Go.Sort

theorem Gd.more_ok {g : Gd} {x : Nat} {m : Int} (h : g.ok) (hx : x < g.nodes.length) (hm : 0 ≤ m) (hh : (g.node x).load.hi + m ≤ 1000000) : (Gd.more g x m).ok := by
  refine ⟨by rw [Gd.more_len]; exact h.len, h.lim, fun i hi => ?_⟩
  rw [Gd.more_len] at hi
  have hi' := h.nodes i hi
  rw [Gd.more_node hx]
  split
  · rename_i e
    subst e
    refine ⟨?_, hi'.root, hi'.inn⟩
    have := hi'.load
    show 0 ≤ (g.node i).load.lo + m ∧ (g.node i).load.lo + m ≤ (g.node i).load.hi + m ∧ (g.node i).load.hi + m ≤ 1000000
    omega
  · exact hi'

set_option maxRecDepth 100000 in
set_option maxHeartbeats 2000000 in
theorem fineP_any (g : Gd) (hok : g.ok) (A : Option Addr) (n cap : Nat) (w : World) (hn : g.nodes.length = n) (hcap : n ≤ cap) (hd : GdAt w A g) :
    Calls Try.prog 30 #[.agg #[.slice A n cap, .int .i64 g.limit]] w fun e w' => e = .returned (.bool (Gd.fineB g)) ∧ Below w.heap.size w w' := by
  have hb0 := ext_alloc w (.cells #[.slice A n cap, .int .i64 g.limit] 43)
  have hB := Blk.new w 43 [.slice A n cap, .int .i64 g.limit]
  have hlen := hok.len
  have h1 : blownR g = (natsI (overN (Gd.fuseOf g) (Gd.fhi g) n), natsI (overN (Gd.fuseOf g) (Gd.flo g) n), 0) := by unfold blownR; rw [(Gd.okB_iff g).2 hok, hn]; rfl
  have h2 : lowR g = (natsI (overN (fun _ => g.limit) (Gd.dhi g) n), natsI (overN (fun _ => g.limit) (Gd.dlo g) n), 0) := by unfold lowR; rw [(Gd.okB_iff g).2 hok, hn]; rfl
  have hbad : Gd.bad g = decide (0 < (natsI (overN (Gd.fuseOf g) (Gd.fhi g) n)).length + (natsI (overN (fun _ => g.limit) (Gd.dhi g) n)).length) := by
    unfold Gd.bad; rw [hn, natsI_len, natsI_len]
  have ho1 := overN_len (Gd.fuseOf g) (Gd.fhi g) n
  have ho2 := overN_len (fun _ => g.limit) (Gd.dhi g) n
  rw [← natsI_len] at ho1 ho2
  have H1 := Lib.hid h1
  have H2 := Lib.hid h2
  have hiff := Gd.not_bad_iff hok
  generalize Gd.fineB g = res at *
  have Hiff := Lib.hid hiff
  have Hbad := Lib.hid hbad
  clear h1 h2 hbad hiff
  go_enter Try.func30, Try.ntmps30
  go_wp2_with fail
  refine (Blown_any g A n cap _ hn (by omega) hcap (hd.ext hb0)).mono ?_
  rintro e w1 ⟨v, x, rfl, hv, hx, hb1⟩
  rw [H1.out] at hv hx
  rw [H1.out]
  obtain ⟨Av, cv, rfl, -⟩ := hv
  obtain ⟨Ax, cx, rfl, -⟩ := hx
  have hb2 := ext_trans hb0 hb1
  have hB2 := hB.ext hb1
  have x0 : w1.cell? ⟨w.heap.size, 0, none⟩ = _ := hB2.cell rfl
  have x1 : w1.cell? ⟨w.heap.size, 1, none⟩ = _ := hB2.cell rfl
  clear hb0 hb1 hB
  go_wp2_with fail
  refine (Low_any g A n cap _ hn (by omega) hcap (hd.ext hb2)).mono ?_
  rintro e w2 ⟨v, x, rfl, hv, hx, hb3⟩
  rw [H2.out] at hv hx
  rw [H2.out]
  obtain ⟨Aw, cw, rfl, -⟩ := hv
  obtain ⟨Ay, cy, rfl, -⟩ := hx
  have hb4 := ext_trans hb2 hb3
  clear hb2 hb3 hB2 x0 x1
  simp only
  have hbad := Hbad.out
  clear H1 H2 Hbad
  generalize (natsI (overN (Gd.fuseOf g) (Gd.fhi g) n)).length = n1 at *
  generalize (natsI (overN (fun _ => g.limit) (Gd.dhi g) n)).length = n2 at *
  generalize (natsI (overN (Gd.fuseOf g) (Gd.flo g) n)).length = n3 at *
  generalize (natsI (overN (fun _ => g.limit) (Gd.dlo g) n)).length = n4 at *
  by_cases hz : n1 + n2 = 0
  · have hr : res = true := Hiff.out.1 (by rw [hbad]; simp; omega)
    obtain rfl : n1 = 0 := by omega
    obtain rfl : n2 = 0 := by omega
    clear Hiff hbad
    go_wp2
    go_ret
    first | exact ⟨rfl, hb4⟩ | exact ⟨by rw [hr]; rfl, hb4⟩
  · have hr : res = false := by
      cases hres : res
      · rfl
      · have := Hiff.out.2 hres; rw [hbad] at this; simp at this; omega
    have hz' : (((n1 : Int) + (n2 : Int)) == 0) = false := by simp; omega
    clear Hiff hbad
    go_wp2
    go_ret
    first | exact ⟨rfl, hb4⟩ | exact ⟨by rw [hr]; rfl, hb4⟩

theorem tmod_nat {z : Int} {n : Nat} (h0 : 0 ≤ z) (hn : 1 ≤ n) : ∃ i : Nat, i < n ∧ z.tmod (n : Int) = (i : Int) := by
  refine ⟨(z.tmod n).toNat, ?_, ?_⟩
  · have h1 := Int.tmod_lt_of_pos z (show (0 : Int) < n by omega)
    have h2 := Int.tmod_nonneg (n : Int) h0
    omega
  · have h2 := Int.tmod_nonneg (n : Int) h0
    omega

set_option maxRecDepth 100000 in
set_option maxHeartbeats 4000000 in
theorem plugs_any (g : Gd) (A : Option Addr) (n cap : Nat) (z : Int) (w : World) (hn : g.nodes.length = n) (hm : n ≤ 9223372036854775807) (hz : 0 ≤ z ∧ z ≤ 255) (hd : GdAt w A g) :
    Calls Try.prog 5 #[.agg #[.slice A n cap, .int .i64 g.limit], .int .u8 z] w fun e w' => e = .returned (.bool true) ∧ Below w.heap.size w w' := by
  have hb0 := ext_alloc w (.cells #[.slice A n cap, .int .i64 g.limit] 37)
  have hB := Blk.new w 37 [.slice A n cap, .int .i64 g.limit]
  have Hn := Lib.hid hn
  have hwr := wires_any A n cap g.limit (w.alloc (.cells #[.slice A n cap, .int .i64 g.limit] 37)) hm
  by_cases h33 : n ≤ 33
  · rw [decide_eq_true h33] at hwr
    have Hwr := Lib.hid hwr
    clear hwr
    go_enter Try.func5, Try.ntmps5
    go_wp2_with fail
    refine Hwr.out.mono ?_; rintro e w1 ⟨rfl, hb1⟩
    have hb2 := ext_trans hb0 hb1
    have hB2 := hB.ext hb1
    have x0 : w1.cell? ⟨w.heap.size, 0, none⟩ = _ := hB2.cell rfl
    have x1 : w1.cell? ⟨w.heap.size, 1, none⟩ = _ := hB2.cell rfl
    clear hb0 hb1 hB Hwr
    go_wp2_with fail
    refine (RightGrid_any g A n cap w1 hn (by omega) (hd.ext hb2)).mono ?_; rintro e w2 ⟨rfl, hb3⟩
    have hb4 := ext_trans hb2 hb3
    have hB4 := hB2.ext hb3
    clear hb2 hb3 hB2 x0 x1
    cases hv : g.okB
    · clear hv hd hn
      go_wp2_with fail
      refine (wakes_any _).mono ?_; rintro e w9 ⟨rfl, hb9⟩
      go_wp2
      go_ret
      exact ⟨rfl, ext_trans hb4 hb9⟩
    · have hok := (Gd.okB_iff g).1 hv
      have hlen := hok.len
      have Hv := Lib.hid hv
      clear hv
      obtain ⟨i, hi, hti⟩ := tmod_nat hz.1 (show 1 ≤ n by omega)
      have hn0 : ((n : Int) == 0) = false := by simp; omega
      have x0 : w2.cell? ⟨w.heap.size, 0, none⟩ = _ := hB4.cell rfl
      have x1 : w2.cell? ⟨w.heap.size, 1, none⟩ = _ := hB4.cell rfl
      have hspr : spareR g (i : Int) = if Gd.bad g then (0, 9) else (Gd.spare g i, 0) := by
        unfold spareR
        rw [Hv.out, hn]
        have : (0 : Int) ≤ (i : Int) ∧ (i : Int) ≤ (n : Int) - 1 := by omega
        simp only [if_pos this, Int.toNat_natCast, if_true]
      have Hspr := Lib.hid hspr
      clear hspr
      go_wp2_with fail
      refine (Grid_any g A n cap w2 hn (by omega) (hd.ext hb4)).mono ?_; rintro e w3 ⟨v, rfl, hv, hb5⟩
      obtain ⟨A1, c1, rfl, hc1, -, hC, -⟩ := hv
      rw [hn] at hc1 ⊢
      have hb6 := ext_trans hb4 hb5
      have hB6 := hB4.ext hb5
      clear hb4 hb5 hB4 x0 x1
      go_wp2_with fail
      refine (Spare_any g A1 n c1 i w3 hn (by omega) hc1 hC).mono ?_; rintro e w4 ⟨rfl, hb7⟩
      have hb8 := ext_trans hb6 hb7
      have hB8 := hB6.ext hb7
      have x0 : w4.cell? ⟨w.heap.size, 0, none⟩ = _ := hB8.cell rfl
      have x1 : w4.cell? ⟨w.heap.size, 1, none⟩ = _ := hB8.cell rfl
      have hnb := Gd.not_bad_iff hok
      rw [Hspr.out]
      clear hb6 hb7 hB6 hC hc1 Hspr
      cases hbd : Gd.bad g
      · have hfine := hnb.1 hbd
        have hsb := Gd.spare_bd hok hfine (x := i) (by omega)
        have Hfm := Lib.hid (fun (m : Int) (hm : 0 ≤ m ∧ m ≤ 1000000) => Gd.fine_more hok hfine (x := i) (by omega) hm)
        have Hfine := Lib.hid hfine
        simp only [Bool.false_eq_true, if_false]
        generalize Gd.spare g i = sp at *
        have hs0 : ¬ sp < 0 := by omega
        have hs1 : ¬ 1000000 < sp := by omega
        clear hbd hnb hfine
        go_wp2_with fail
        refine (Grid_any g A n cap w4 hn (by omega) (hd.ext hb8)).mono ?_; rintro e w5 ⟨v, rfl, hv, hb9⟩
        obtain ⟨A2, c2, rfl, hc2, -, hC, -⟩ := hv
        rw [hn] at hc2 ⊢
        have hb10 := ext_trans hb8 hb9
        have hB10 := hB8.ext hb9
        clear hb8 hb9 hB8 x0 x1
        go_wp2_with fail
        refine (fineP_any g hok A2 n c2 w5 hn hc2 hC).mono ?_; rintro e w6 ⟨rfl, hb11⟩
        rw [Hfine.out]
        have hb12 := ext_trans hb10 hb11
        have hB12 := hB10.ext hb11
        have x0 : w6.cell? ⟨w.heap.size, 0, none⟩ = _ := hB12.cell rfl
        have x1 : w6.cell? ⟨w.heap.size, 1, none⟩ = _ := hB12.cell rfl
        clear hb10 hb11 hB10 hC hc2
        obtain ⟨b, off, rfl, -, -, -, c2, -, -⟩ := (hd.ext hb12).node (k := i) (by omega)
        have hin : (i : Int) < (n : Int) := by omega
        have hi0 : (0 : Int) ≤ (i : Int) := by omega
        have hld := (hok.nodes i (by omega)).load
        generalize hhi : (g.node i).load.hi = hi' at *
        have Hhi := Lib.hid hhi
        clear hhi
        by_cases hmx : 1000000 < hi' + sp + 1
        · go_wp2_with fail
          refine (wakes_any _).mono ?_; rintro e w9 ⟨rfl, hb13⟩
          go_wp2
          go_ret
          exact ⟨rfl, ext_trans hb12 hb13⟩
        · have hok1 := Gd.more_ok hok (x := i) (m := sp) (by omega) (by omega) (by rw [Hhi.out]; omega)
          have hf1 : Gd.fineB (Gd.more g i sp) = true := (Hfm.out sp hsb).2 (by omega)
          have Hf1 := Lib.hid hf1
          clear hf1
          go_wp2_with fail
          refine (With_any g (some ⟨b, off, none⟩) n cap i sp w6 hok hn hi hsb (hd.ext hb12)).mono ?_; rintro e w7 ⟨v, rfl, hv, hb13⟩
          obtain ⟨A3, c3, rfl, hc3, -, hC, -⟩ := hv
          rw [Gd.more_len, hn] at hc3 ⊢
          have hb14 := ext_trans hb12 hb13
          have hB14 := hB12.ext hb13
          clear hb12 hb13 hB12 x0 x1 c2
          go_wp2_with fail
          refine (Grid_any (Gd.more g i sp) A3 n c3 w7 (by rw [Gd.more_len]; exact hn) (by omega) hC).mono ?_; rintro e w8 ⟨v, rfl, hv, hb15⟩
          obtain ⟨A4, c4, rfl, hc4, -, hC4, -⟩ := hv
          rw [Gd.more_len, hn] at hc4 ⊢
          have hb16 := ext_trans hb14 hb15
          have hB16 := hB14.ext hb15
          clear hb14 hb15 hB14 hC hc3
          go_wp2_with fail
          refine (fineP_any (Gd.more g i sp) hok1 A4 n c4 w8 (by rw [Gd.more_len]; exact hn) hc4 hC4).mono ?_; rintro e w9 ⟨rfl, hb17⟩
          rw [Hf1.out]
          have hb18 := ext_trans hb16 hb17
          have hB18 := hB16.ext hb17
          have x0 : w9.cell? ⟨w.heap.size, 0, none⟩ = _ := hB18.cell rfl
          have x1 : w9.cell? ⟨w.heap.size, 1, none⟩ = _ := hB18.cell rfl
          clear hb16 hb17 hB16 hC4 hc4 hok1
          by_cases hq : sp = 1000000
          · subst hq
            go_wp2_with fail
            refine (wakes_any _).mono ?_; rintro e wa ⟨rfl, hb19⟩
            go_wp2
            go_ret
            exact ⟨rfl, ext_trans hb18 hb19⟩
          · have hq' : (sp == 1000000) = false := by simpa using hq
            have hok2 := Gd.more_ok hok (x := i) (m := sp + 1) (by omega) (by omega) (by rw [Hhi.out]; omega)
            have hf2 : Gd.fineB (Gd.more g i (sp + 1)) = false := by
              cases hr : Gd.fineB (Gd.more g i (sp + 1))
              · rfl
              · have := (Hfm.out (sp + 1) (by omega)).1 hr; omega
            have Hf2 := Lib.hid hf2
            clear hf2 hq
            go_wp2_with fail
            refine (With_any g (some ⟨b, off, none⟩) n cap i (sp + 1) w9 hok hn hi (by omega) (hd.ext hb18)).mono ?_; rintro e wa ⟨v, rfl, hv, hb19⟩
            obtain ⟨A3, c3, rfl, hc3, -, hC, -⟩ := hv
            rw [Gd.more_len, hn] at hc3 ⊢
            have hb20 := ext_trans hb18 hb19
            clear hb18 hb19 hB18 x0 x1
            go_wp2_with fail
            refine (Grid_any (Gd.more g i (sp + 1)) A3 n c3 wa (by rw [Gd.more_len]; exact hn) (by omega) hC).mono ?_; rintro e wb ⟨v, rfl, hv, hb21⟩
            obtain ⟨A4, c4, rfl, hc4, -, hC4, -⟩ := hv
            rw [Gd.more_len, hn] at hc4 ⊢
            have hb22 := ext_trans hb20 hb21
            clear hb20 hb21 hC hc3
            go_wp2_with fail
            refine (fineP_any (Gd.more g i (sp + 1)) hok2 A4 n c4 wb (by rw [Gd.more_len]; exact hn) hc4 hC4).mono ?_; rintro e wc ⟨rfl, hb23⟩
            rw [Hf2.out]
            go_wp2_with fail
            refine (wakes_any _).mono ?_; rintro e wd ⟨rfl, hb24⟩
            go_wp2
            go_ret
            exact ⟨rfl, ext_trans (ext_trans hb22 hb23) hb24⟩
      · have hfine : Gd.fineB g = false := by
          cases hr : Gd.fineB g
          · rfl
          · have := hnb.2 hr; rw [hbd] at this; cases this
        have Hfine := Lib.hid hfine
        simp only [if_true]
        clear hbd hnb hfine
        go_wp2_with fail
        refine (Grid_any g A n cap w4 hn (by omega) (hd.ext hb8)).mono ?_; rintro e w5 ⟨v, rfl, hv, hb9⟩
        obtain ⟨A2, c2, rfl, hc2, -, hC, -⟩ := hv
        rw [hn] at hc2 ⊢
        have hb10 := ext_trans hb8 hb9
        clear hb8 hb9 hB8 x0 x1
        go_wp2_with fail
        refine (fineP_any g hok A2 n c2 w5 hn hc2 hC).mono ?_; rintro e w6 ⟨rfl, hb11⟩
        rw [Hfine.out]
        go_wp2_with fail
        refine (wakes_any _).mono ?_; rintro e w7 ⟨rfl, hb12⟩
        go_wp2
        go_ret
        exact ⟨rfl, ext_trans (ext_trans hb10 hb11) hb12⟩
  · rw [decide_eq_false h33] at hwr
    have Hwr := Lib.hid hwr
    clear hwr hd hn
    go_enter Try.func5, Try.ntmps5
    go_wp2_with fail
    refine Hwr.out.mono ?_; rintro e w1 ⟨rfl, hb1⟩
    go_wp2_with fail
    refine (wakes_any _).mono ?_; rintro e w2 ⟨rfl, hb2⟩
    go_wp2
    go_ret
    exact ⟨rfl, ext_trans (ext_trans hb0 hb1) hb2⟩
end Go.Proofs.Ytopfhinnamhoiaa

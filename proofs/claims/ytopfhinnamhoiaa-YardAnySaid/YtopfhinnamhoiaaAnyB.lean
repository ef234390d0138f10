/- Walk: the law YardAny. -/
import Derived.Deep.DeepCutAuto
import Derived.Test.YtopfhinnamhoiaaAnyL
import Derived.Test.YtopfhinnamhoiaaLiftC
namespace Go.Proofs.Ytopfhinnamhoiaa
open Go.RowKit Go.Bs Go.Yd Go.Pl Go.Sort

theorem tmod_natCast (a b : Nat) : (a : Int).tmod (b : Int) = ((a % b : Nat) : Int) := by
  rw [Int.tmod_eq_emod_of_nonneg (by omega)]; omega

set_option maxRecDepth 100000 in
set_option maxHeartbeats 8000000 in
theorem any_rest (g : Gd) (hok : g.ok) (words : List Int) (A : Option Addr) (n cap : Nat) (Aw : Option Addr) (m cw : Nat) (w : World) (hn : g.nodes.length = n) (hmw : words.length = m) (hm0 : 0 < m) (hm9 : m ≤ 9223372036854775807) (hw : ∀ x ∈ words, 0 ≤ x ∧ x ≤ 65535) (hd : GdAt w A g) (hdw : Cells w Aw 1 encU words) (hv : g.okB = true) :
    Calls Try.prog 7 #[.agg #[.slice A n cap, .int .i64 g.limit], .slice Aw m cw] w fun e w' => e = .returned (.bool true) ∧ Below w.heap.size w w' := by
  have hlen := hok.len
  have hb0 := ext_alloc w (.cells #[.slice A n cap, .int .i64 g.limit] 37)
  have hB := Blk.new w 37 [.slice A n cap, .int .i64 g.limit]
  have Hn := Lib.hid hn
  have Hmid := Lib.hid (Gd.mid hok (fun i hi => Gd.picked_bd hok (words := words) hw hi))
  have hwr := wires_any A n cap g.limit (w.alloc (.cells #[.slice A n cap, .int .i64 g.limit] 37)) (by omega)
  rw [decide_eq_true (show n ≤ 33 by omega)] at hwr
  have Hwr := Lib.hid hwr
  have Hv := Lib.hid hv
  have hfl : flowsR g = (rngs (Gd.flo g) (Gd.fhi g) n, rngs (Gd.dlo g) (Gd.dhi g) n, 0) := by unfold flowsR; rw [hv, hn]; rfl
  have h1 : blownR g = (natsI (overN (Gd.fuseOf g) (Gd.fhi g) n), natsI (overN (Gd.fuseOf g) (Gd.flo g) n), 0) := by unfold blownR; rw [hv, hn]; rfl
  have h2 : lowR g = (natsI (overN (fun _ => g.limit) (Gd.dhi g) n), natsI (overN (fun _ => g.limit) (Gd.dlo g) n), 0) := by unfold lowR; rw [hv, hn]; rfl
  have Hfl := Lib.hid hfl
  have H1 := Lib.hid h1
  have H2 := Lib.hid h2
  have hm0' : ((m : Int) == 0) = false := by simp; omega
  have Hm0 := Lib.hid hm0
  clear hwr hv hfl h1 h2 hm0
  go_enter Try.func7, Try.ntmps7
  go_wp2_with fail
  refine Hwr.out.mono ?_; rintro e w1 ⟨rfl, hb1⟩
  have hb2 := ext_trans hb0 hb1
  have hB2 := hB.ext hb1
  have x0 : w1.cell? ⟨w.heap.size, 0, none⟩ = _ := hB2.cell rfl
  have x1 : w1.cell? ⟨w.heap.size, 1, none⟩ = _ := hB2.cell rfl
  clear hb0 hb1 hB Hwr
  go_wp2_with fail
  refine (RightGrid_any g A n cap w1 hn (by omega) (hd.ext hb2)).mono ?_; rintro e w2 ⟨rfl, hb3⟩
  rw [Hv.out]
  have hb4 := ext_trans hb2 hb3
  have hB4 := hB2.ext hb3
  have x2 : w2.cell? ⟨w.heap.size, 0, none⟩ = _ := hB4.cell rfl
  have x3 : w2.cell? ⟨w.heap.size, 1, none⟩ = _ := hB4.cell rfl
  clear hb2 hb3 hB2 x0 x1
  go_wp2_with fail
  refine (Grid_any g A n cap w2 hn (by omega) (hd.ext hb4)).mono ?_; rintro e w3 ⟨v, rfl, hv, hb5⟩
  obtain ⟨A1, c1, rfl, hc1, -, hC, -⟩ := hv
  rw [hn] at hc1 ⊢
  have hb6 := ext_trans hb4 hb5
  have hB6 := hB4.ext hb5
  clear hb4 hb5 hB4 x2 x3
  go_wp2_with fail
  refine (Flows_any g A1 n c1 w3 hn (by omega) hc1 hC).mono ?_; rintro e w4 ⟨v, x, rfl, hv, hx, hb7⟩
  rw [Hfl.out] at hv hx
  rw [Hfl.out]
  obtain ⟨Af, cf, rfl, -, -, hFl, -⟩ := hv
  obtain ⟨Ag, cg, rfl, -, -, hDr, -⟩ := hx
  simp only [rngs_len]
  have hb8 := ext_trans hb6 hb7
  have hB8 := hB6.ext hb7
  have x0 : w4.cell? ⟨w.heap.size, 0, none⟩ = _ := hB8.cell rfl
  have x1 : w4.cell? ⟨w.heap.size, 1, none⟩ = _ := hB8.cell rfl
  clear hb6 hb7 hB6 hC hc1
  go_wp2_with fail
  refine (Grid_any g A n cap w4 hn (by omega) (hd.ext hb8)).mono ?_; rintro e w5 ⟨v, rfl, hv, hb9⟩
  obtain ⟨A2, c2, rfl, hc2, -, hC, -⟩ := hv
  rw [hn] at hc2 ⊢
  have hb10 := ext_trans hb8 hb9
  have hB10 := hB8.ext hb9
  have hFl2 := hFl.ext hb9
  have hDr2 := hDr.ext hb9
  clear hb8 hb9 hB8 x0 x1 hFl hDr
  go_wp2_with fail
  refine (Blown_any g A2 n c2 w5 hn (by omega) hc2 hC).mono ?_; rintro e w6 ⟨v, x, rfl, hv, hx, hb11⟩
  rw [H1.out] at hv hx
  rw [H1.out]
  obtain ⟨Aa, ca, rfl, -, -, ha, -⟩ := hv
  obtain ⟨Ab, cb, rfl, -, -, hb, -⟩ := hx
  have hb12 := ext_trans hb10 hb11
  have hB12 := hB10.ext hb11
  have hFl3 := hFl2.ext hb11
  have hDr3 := hDr2.ext hb11
  have x0 : w6.cell? ⟨w.heap.size, 0, none⟩ = _ := hB12.cell rfl
  have x1 : w6.cell? ⟨w.heap.size, 1, none⟩ = _ := hB12.cell rfl
  clear hb10 hb11 hB10 hC hc2 hFl2 hDr2
  go_wp2_with fail
  refine (Grid_any g A n cap w6 hn (by omega) (hd.ext hb12)).mono ?_; rintro e w7 ⟨v, rfl, hv, hb13⟩
  obtain ⟨A3, c3, rfl, hc3, -, hC, -⟩ := hv
  rw [hn] at hc3 ⊢
  have hb14 := ext_trans hb12 hb13
  have hB14 := hB12.ext hb13
  have hFl4 := hFl3.ext hb13
  have hDr4 := hDr3.ext hb13
  have ha4 := ha.ext hb13
  have hb4' := hb.ext hb13
  clear hb12 hb13 hB12 x0 x1 hFl3 hDr3 ha hb
  go_wp2_with fail
  refine (Low_any g A3 n c3 w7 hn (by omega) hc3 hC).mono ?_; rintro e W0 ⟨v, x, rfl, hv, hx, hb15⟩
  rw [H2.out] at hv hx
  rw [H2.out]
  obtain ⟨Ac, cc, rfl, -, -, hc, -⟩ := hv
  obtain ⟨Ad, cd, rfl, -, -, hdd, -⟩ := hx
  simp only
  have hbW := ext_trans hb14 hb15
  have hBW := hB14.ext hb15
  have hFl := hFl4.ext hb15
  have hDr := hDr4.ext hb15
  have ha := ha4.ext hb15
  have hb := hb4'.ext hb15
  have x0 : W0.cell? ⟨w.heap.size, 0, none⟩ = _ := hBW.cell rfl
  clear hb14 hb15 hB14 hC hc3 hFl4 hDr4 ha4 hb4' Hfl H1 H2
  have ho1 := overN_len (Gd.fuseOf g) (Gd.fhi g) n
  have ho2 := overN_len (Gd.fuseOf g) (Gd.flo g) n
  have ho3 := overN_len (fun _ => g.limit) (Gd.dhi g) n
  have ho4 := overN_len (fun _ => g.limit) (Gd.dlo g) n
  rw [← natsI_len] at ho1 ho2 ho3 ho4
  have Hb1 := Lib.hid (fun k (hk : k < n) hb => hn ▸ Gd.blow_in Hmid.out (k := k) (by omega) hb)
  have Hb2 := Lib.hid (fun k hb => hn ▸ Gd.blow_out hok Hmid.out (k := k) hb)
  have Hb3 := Lib.hid (fun k (hk : k < n) hb => hn ▸ Gd.low_in Hmid.out (k := k) (by omega) hb)
  have Hb4 := Lib.hid (fun k hb => hn ▸ Gd.low_out Hmid.out (k := k) hb)
  generalize natsI (overN (Gd.fuseOf g) (Gd.fhi g) n) = la at *
  generalize natsI (overN (Gd.fuseOf g) (Gd.flo g) n) = lb at *
  generalize natsI (overN (fun _ => g.limit) (Gd.dhi g) n) = lc at *
  generalize natsI (overN (fun _ => g.limit) (Gd.dlo g) n) = ld at *
  go_upto_region 8 with fail
  have hmk := fun w => mk24n n (by omega) w
  go_cut [14, 15] (fun u v W => ∃ Bf Bd, u = .slice (some ⟨Bf, 0, none⟩) n n ∧ v = .slice (some ⟨Bd, 0, none⟩) n n ∧ AnI W0 W n Bf Bd (fun _ => 0) (fun _ => 0))
  case first =>
    refine Dr.wp_region_plan 10 [] (.q [0, 1, 2, 4, 5, 6] (.e2 3 (.q [8] (.e1 7 (.q [9] .done))) 7 (.e1 3 (.q [8, 9] .done)))) (by kernel_rfl) (by kernel_rfl) ?_
    have q0 := Dr.cell0 (hBW.drew.cell (i := 0) rfl)
    have hsW : W0.drew.heap.size = W0.heap.size := rfl
    have hbd := ext_drew W0
    have HsW := Lib.hid hsW
    clear hsW x0
    generalize World.drew _ = W at *
    refine Dr.plan_q (l := [_, _, _, _, _, _]) rfl (fun K hK => ?_)
    iterate 6 (go_big_quiet_step (fail))
    refine wpQuiet_nil (hK _ ?_); clear hK K
    refine Dr.plan_e2 ?_ ?_
    · refine Dr.plan_e rfl (by rfl) (fun K hK => ?_)
      go_wp2_with fail
      refine hK _ _ (.of (ext_alloc _ _)) ?_; clear hK K
      refine Dr.plan_q (l := [_]) rfl (fun K hK => ?_)
      iterate 1 (go_big_quiet_step (fail))
      refine wpQuiet_nil (hK _ ?_); clear hK K
      refine Dr.plan_e rfl (by rfl) (fun K hK => ?_)
      go_wp2_with fail
      refine hK _ _ (.of (ext_alloc _ _)) ?_; clear hK K
      refine Dr.plan_q (l := [_]) rfl (fun K hK => ?_)
      iterate 1 (go_big_quiet_step (fail))
      refine wpQuiet_nil (hK _ ?_); clear hK K
      refine Dr.plan_end rfl ?_
      have b1 := Blk.new W 3 ((tab n fun _ => 0).map (Value.int .i64))
      have b2 : Blk ((W.alloc (.cells ((tab n fun _ => 0).map (Value.int .i64)).toArray 3)).alloc (.cells ((tab n fun _ => 0).map (Value.int .i64)).toArray 3)) (W.heap.size + 1) 3 ((tab n fun _ => 0).map (Value.int .i64)) := by simpa using Blk.new (W.alloc (.cells ((tab n fun _ => 0).map (Value.int .i64)).toArray 3)) 3 ((tab n fun _ => 0).map (Value.int .i64))
      go_wp2
      go_meet
      case rel => exact ⟨W.heap.size, W.heap.size + 1, rfl, rfl, ext_trans hbd ((ext_alloc W _).alloc (by simp) _), Blk.alloc b1 _, b2, by have := HsW.out; omega, by have := HsW.out; omega, by omega⟩
    · refine Dr.plan_e rfl (by rfl) (fun K hK => ?_)
      go_wp2_with fail
      refine hK _ _ (.of (ext_alloc _ _)) ?_; clear hK K
      refine Dr.plan_e rfl (by rfl) (fun K hK => ?_)
      go_wp2_with fail
      refine hK _ _ (.of (ext_alloc _ _)) ?_; clear hK K
      refine Dr.plan_q (l := [_, _]) rfl (fun K hK => ?_)
      iterate 2 (go_big_quiet_step (fail))
      refine wpQuiet_nil (hK _ ?_); clear hK K
      refine Dr.plan_end rfl ?_
      have b1 := Blk.new W 3 ((tab n fun _ => 0).map (Value.int .i64))
      have b2 : Blk ((W.alloc (.cells ((tab n fun _ => 0).map (Value.int .i64)).toArray 3)).alloc (.cells ((tab n fun _ => 0).map (Value.int .i64)).toArray 3)) (W.heap.size + 1) 3 ((tab n fun _ => 0).map (Value.int .i64)) := by simpa using Blk.new (W.alloc (.cells ((tab n fun _ => 0).map (Value.int .i64)).toArray 3)) 3 ((tab n fun _ => 0).map (Value.int .i64))
      go_wp2
      go_meet
      case rel => exact ⟨W.heap.size + 1, W.heap.size, rfl, rfl, ext_trans hbd ((ext_alloc W _).alloc (by simp) _), b2, Blk.alloc b1 _, by have := HsW.out; omega, by have := HsW.out; omega, by omega⟩
  case rest =>
    obtain ⟨Bf, Bd, rfl, rfl, hS⟩ := hcut
    clear hmk x0
    have x0 : wc.cell? ⟨w.heap.size, 0, none⟩ = _ := (hBW.ext hS.bl).cell rfl
    generalize hlp : Gd.picked g words = lp at *
    have Hlp := Lib.hid hlp
    clear hlp
    go_wp2
    go_loopw [16] (fun v wr => ∃ (q : Nat) (x : Int), v = .int .i64 x ∧ q ≤ n ∧ Hid (x = (n : Int) - 1 - q) ∧ AnI W0 wr n Bf Bd (g.fl lp q) (fun _ => 0)) (fun v _ => (intOf v + 1).toNat)
    case atStart => exact ⟨0, (n : Int) - 1, rfl, by omega, Lib.hid (by omega), hS⟩
    case round =>
      clear hS x0
      obtain ⟨q, x, rfl, hq, Hx, hS⟩ := hrel
      by_cases hlt : q < n
      · obtain ⟨i, hi⟩ : ∃ i, n = q + 1 + i := ⟨n - q - 1, by omega⟩
        have hx : x = (i : Int) := by rw [Hx.out]; omega
        subst hx
        have hin : (i : Int) < (n : Int) := by omega
        have hin' : i < n := by omega
        have hi0 : (0 : Int) ≤ (i : Int) := by omega
        have hgi := hok.nodes i (by omega)
        have Hst := Lib.hid (Gd.fl_step g lp q i (by omega))
        have Hfb := Lib.hid (Hmid.out.fl (q + 1) (by omega))
        have hfq := Hmid.out.fl q (by omega) i
        clear Hx
        have x0 : wr.cell? ⟨w.heap.size, 0, none⟩ = _ := (hBW.ext hS.bl).cell rfl
        obtain ⟨b, off, eA, -, c0, c1, c2, c3, c4⟩ := (hd.ext (ext_trans hbW hS.bl)).node (k := i) (by omega)
        subst eA
        have hS2 := hS.ext (ext_alloc wr (.cells #[.int .i64 (g.node i).parent, .int .i64 (g.node i).load.lo, .int .i64 (g.node i).load.hi, .int .i64 (g.node i).fuse, .int .i64 (g.node i).sag] 52))
        have hbx := Blk.new wr 52 (Nd.enc (g.node i))
        have hszr := hS.bl.size
        have hFlt := Blk.lt hS.F
        have hDlt := Blk.lt hS.D
        clear hS
        go_upto_region 13 with fail
        change Blk (wr.alloc (.cells #[.int .i64 (g.node i).parent, .int .i64 (g.node i).load.lo, .int .i64 (g.node i).load.hi, .int .i64 (g.node i).fuse, .int .i64 (g.node i).sag] 52)) wr.heap.size 52 [.int .i64 (g.node i).parent, .int .i64 (g.node i).load.lo, .int .i64 (g.node i).load.hi, .int .i64 (g.node i).fuse, .int .i64 (g.node i).sag] at hbx
        clear x0 c0 c1 c2 c3 c4
        generalize wr.alloc (.cells #[.int .i64 (g.node i).parent, .int .i64 (g.node i).load.lo, .int .i64 (g.node i).load.hi, .int .i64 (g.node i).fuse, .int .i64 (g.node i).sag] 52) = W2 at *
        refine Dr.wp_region_plan 27 [] (.q [0, 1, 2, 3, 4, 5, 6, 7, 8, 9, 10, 11, 12, 13, 14, 15, 16, 17, 18, 19, 20, 21, 22, 23, 24, 25, 26] .done) (by kernel_rfl) (by kernel_rfl) ?_
        have hS3 := hS2.ext (ext_drew W2)
        have hbx3 := hbx.ext (ext_drew W2)
        clear hS2 hbx
        generalize World.drew _ = W3 at *
        obtain ⟨r, hrm, htr⟩ : ∃ r : Nat, r = i % m ∧ (i : Int).tmod (m : Int) = (r : Int) := ⟨i % m, rfl, tmod_natCast i m⟩
        have hrl : r < m := by rw [hrm]; exact Nat.mod_lt _ Hm0.out
        have Hrm := Lib.hid hrm
        clear hrm
        obtain ⟨b', off', eA, -, d1⟩ := (hdw.ext (ext_trans hbW hS3.bl)).at1 (k := r) (by omega) rfl
        subst eA
        have hrl' : (r : Int) < (m : Int) := by omega
        have hr0 : (0 : Int) ≤ (r : Int) := by omega
        have hwd := hw _ (List.getElem_mem (l := words) (show r < words.length by omega))
        have hpk : lp i = (g.node i).load.lo + (words[r]'(by omega)).tmod ((g.node i).load.hi - (g.node i).load.lo + 1) := by
          rw [← Hlp.out]
          unfold Gd.picked
          have e1 : words.getD (i % words.length) 0 = words[r]'(by omega) := by
            have e2 : i % words.length = r := by rw [hmw]; exact Hrm.out.symm
            rw [e2, List.getD_eq_getElem?_getD, List.getElem?_eq_getElem (by omega)]; rfl
          rw [e1]; rfl
        generalize (words[r]'(by omega)) = wd at *
        have hld := hgi.load
        have htm := tmod_bd (a := wd) (b := (g.node i).load.hi - (g.node i).load.lo) hwd.1 (by omega)
        have hdz : (((g.node i).load.hi - (g.node i).load.lo + 1) == 0) = false := by simp; omega
        generalize hto : wd.tmod ((g.node i).load.hi - (g.node i).load.lo + 1) = tm at *
        have q0 := Dr.cell0 (hS3.atF hin')
        have q1 := Dr.cell0 (hbx3.cell (i := 1) rfl)
        have q2 := Dr.cell0 (hbx3.cell (i := 2) rfl)
        have q3 := Dr.cell0 d1
        have Hpk := Lib.hid hpk
        clear hpk d1
        generalize (g.node i).load.lo = lo at *
        generalize (g.node i).load.hi = hi' at *
        generalize hf0 : g.fl lp q i = f0 at *
        have Hf0 := Lib.hid hf0
        clear hf0
        refine Dr.plan_q (l := [_, _, _, _, _, _, _, _, _, _, _, _, _, _, _, _, _, _, _, _, _, _, _, _, _, _, _]) rfl (fun K hK => ?_)
        iterate 27 (go_big_quiet_step (fail))
        refine wpQuiet_nil (hK _ ?_); clear hK K
        refine Dr.plan_done (tl := [_]) rfl ?_
        have f0' := hS3.F.free i
        have fcell := hS3.atF hin'
        try rw [Hf0.out] at fcell
        have hS4 := hS3.setF i (f0 + (lo + tm))
        have Hne := Lib.hid (show wr.heap.size ≠ Bf by omega)
        have hbx4 := hbx3.other (p := ⟨Bf, i, none⟩) Hne.out (.int .i64 (f0 + (lo + tm)))
        have hst := Hst.out
        rw [Hpk.out] at hst
        clear q0 q1 q2 q3 hS3 hbx3 Hst
        go_upto_region 14 with fail
        clear f0' fcell
        generalize W3.setCell ⟨Bf, i, none⟩ (.int .i64 (f0 + (lo + tm))) = W4 at *
        generalize hF1 : upd (g.fl lp q) i (f0 + (lo + tm)) = F1 at *
        have Hst := Lib.hid hst
        clear hst hdz hto
        by_cases hpos : 0 < i
        · have hpos' : (0 : Int) < (i : Int) := by omega
          have hst := Hst.out
          rw [if_pos hpos] at hst
          have Hst2 := Lib.hid hst
          have hpar := Gd.par_lt hok hpos (by omega)
          have hpn : g.par i < n := by omega
          have hpp : (0 : Int) ≤ (g.par i : Int) := by omega
          have hpp' : (g.par i : Int) < (n : Int) := by omega
          have d0 := hbx4.cell (i := 0) rfl
          rw [hpar.2] at d0
          have hsb := Hfb.out (g.par i)
          rw [hst, upd_self] at hsb
          clear hst Hst
          go_upto_region 15 with fail
          refine Dr.wp_region_plan 11 [] (.q [0, 1, 2, 3, 4, 5, 6, 7, 8, 9, 10] .done) (by kernel_rfl) (by kernel_rfl) ?_
          have hS5 := hS4.ext (ext_drew W4)
          have d5 := cell_ext d0 (ext_drew W4)
          clear hS4 hbx4 d0
          generalize World.drew _ = W5 at *
          have q0 := Dr.cell0 d5
          have q1 := Dr.cell0 (hS5.atF hin')
          have q2 := Dr.cell0 (hS5.atF hpn)
          refine Dr.plan_q (l := [_, _, _, _, _, _, _, _, _, _, _]) rfl (fun K hK => ?_)
          iterate 11 (go_big_quiet_step (fail))
          refine wpQuiet_nil (hK _ ?_); clear hK K
          refine Dr.plan_done (tl := [_]) rfl ?_
          clear q0 q1 q2 d5
          have f0' := hS5.F.free (g.par i)
          have fc := hS5.atF hpn
          have hS6 := hS5.setF (g.par i) (F1 (g.par i) + F1 i)
          clear hS5
          go_wp2
          go_roundw
          case rel => exact ⟨q + 1, (i : Int) - 1, rfl, by omega, Lib.hid (by omega), by rw [Hst2.out]; exact hS6⟩
          case measure => simp [intOf]
        · have hz : ¬ (0 : Int) < (i : Int) := by omega
          have hst := Hst.out
          rw [if_neg hpos] at hst
          have Hst2 := Lib.hid hst
          clear hst Hst hbx4
          go_wp2
          go_roundw
          case rel => exact ⟨q + 1, (i : Int) - 1, rfl, by omega, Lib.hid (by omega), by rw [Hst2.out]; exact hS4⟩
          case measure => simp [intOf]
      · obtain rfl : q = n := by omega
        have hx : x = -1 := by rw [Hx.out]; omega
        subst hx
        clear Hx
        have hF : g.fl lp q = g.flow lp := by unfold Gd.flow; rw [Hn.out]
        rw [hF] at hS
        have Hm := Lib.hid Hmid.out
        clear hF
        have x0 : wr.cell? ⟨w.heap.size, 0, none⟩ = _ := (hBW.ext hS.bl).cell rfl
        generalize hFF : g.flow lp = F at *
        have HFF := Lib.hid hFF
        clear hFF
        go_wp2
        exact any_loop2 g hok lp F A q cap Af Ag Aa Ab Ac Ad cf cg ca cb cc cd la lb lc ld w W0 wr Bf Bd (by assumption) Hn.out hd hbW hBW hFl hDr ha hb hc hdd ho1 ho2 ho3 ho4 Hm.out HFF.out Hb1.out Hb2.out Hb3.out Hb4.out hS _ _ _ (Lib.hid rfl) rfl (by assumption)
end Go.Proofs.Ytopfhinnamhoiaa

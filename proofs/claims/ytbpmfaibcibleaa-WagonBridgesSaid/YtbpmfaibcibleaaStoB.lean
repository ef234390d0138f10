/- Walk: Stops. (Printed by mk_stpa.py.) -/
import Derived.Test.YtbpmfaibcibleaaStoA
namespace Go.Proofs.Ytbpmfaibcibleaa
open Go.RowKit Go.Bs Go.Wg Go.Pl Go.Sort
set_option maxRecDepth 100000 in
set_option maxHeartbeats 4000000 in
theorem Stops_any (v : JbV) (ts : List Th) (R : Option Addr) (k cR : Nat) (rs : List RwV) (B : Option Addr) (q cB : Nat) (bs : List Br) (w : World) (hsl : v.x.l.lanes.length ≤ 9223372036854775807) (hst : ts.length ≤ 9223372036854775807) (hl : Cells w v.x.A 1 Go.Bs.encI v.x.l.lanes) (ht : Cells w v.T 4 Th.enc ts) (hk : rs.length = k) (hk1 : k ≤ 1000000) (hM : RwM w R rs) (hF : (rows rs).flatten.length ≤ 1000000) (hq : bs.length = q) (hq1 : q ≤ 1000000) (hB : Cells w B 2 Br.enc bs) :
    Calls Try.prog 53 #[LoV.val v.x, .slice v.T ts.length v.cT, .slice R k cR, .slice B q cB] w (StR v.x.l ts (rows rs) bs w) := by
  have HF := Lib.hid hF
  have Hk := Lib.hid hk
  have HM := Lib.hid hM
  have Hq := Lib.hid hq
  have HB := Lib.hid hB
  have C1 := Lib.hid (fun V (hV : Below w.heap.size w V) => check_any v ts V hsl hst (hl.ext hV) (ht.ext hV))
  have C2 := Lib.hid (fun V (hV : Below w.heap.size w V) (h0 : checkE v.x.l ts = 0) => by
    obtain ⟨h1, h2, h3⟩ := checkE_zero.1 h0
    exact right_any v ts R k cR rs V ⟨hl.ext hV, ht.ext hV, by have := h1.many; omega, by omega⟩ h3 h1 h2 hk hk1 (hM.ext hV) hF)
  have HT := Lib.hid ht
  have HL := Lib.hid hl
  clear hF hk hM hq hB
  have hb := ext_alloc w (.cells (LoV.enc v.x).toArray 44)
  have hP := Blk.new w 44 (LoV.enc v.x)
  clear hl ht
  unfold LoV.val
  unfold LoV.enc at *
  go_enter Try.func53, Try.ntmps53
  go_upto_region 1 with fail
  change Blk (w.alloc (.cells #[.slice v.x.A v.x.l.lanes.length v.x.c, .int .i64 v.x.l.height, .int .i64 v.x.l.carries, .int .i64 v.x.l.empty, .int .i64 v.x.l.rear, .int .i64 v.x.l.axle, .int .i64 v.x.l.deck] 44)) _ _ _ at hP
  change Below w.heap.size w (w.alloc (.cells #[.slice v.x.A v.x.l.lanes.length v.x.c, .int .i64 v.x.l.height, .int .i64 v.x.l.carries, .int .i64 v.x.l.empty, .int .i64 v.x.l.rear, .int .i64 v.x.l.axle, .int .i64 v.x.l.deck] 44)) at hb
  generalize w.alloc (.cells #[.slice v.x.A v.x.l.lanes.length v.x.c, .int .i64 v.x.l.height, .int .i64 v.x.l.carries, .int .i64 v.x.l.empty, .int .i64 v.x.l.rear, .int .i64 v.x.l.axle, .int .i64 v.x.l.deck] 44) = W0 at *
  have q0 : W0.cell? ⟨w.heap.size, 0, none⟩ = _ := hP.cell rfl
  have q1 : W0.cell? ⟨w.heap.size, 1, none⟩ = _ := hP.cell rfl
  have q2 : W0.cell? ⟨w.heap.size, 2, none⟩ = _ := hP.cell rfl
  have q3 : W0.cell? ⟨w.heap.size, 3, none⟩ = _ := hP.cell rfl
  have q4 : W0.cell? ⟨w.heap.size, 4, none⟩ = _ := hP.cell rfl
  have q5 : W0.cell? ⟨w.heap.size, 5, none⟩ = _ := hP.cell rfl
  have q6 : W0.cell? ⟨w.heap.size, 6, none⟩ = _ := hP.cell rfl
  have D1 := Lib.hid (C1.out W0 hb)
  unfold LoV.val at D1
  generalize hce : checkE v.x.l ts = ce at *
  have Hce := Lib.hid hce
  clear hce
  go_wp2_with fail
  refine (D1.out).mono ?_; rintro e W1 ⟨rfl, hx⟩
  replace hb := ext_trans hb hx
  replace hP := hP.ext hx
  clear q0 q1 q2 q3 q4 q5 q6
  clear D1 hx C1
  by_cases h0 : ce = 0
  case neg =>
    have h00 : (ce != 0) = true := by rw [bne_iff_ne]; exact h0
    have Hr := Lib.hid (show stopVal v.x.l ts (rows rs) bs = ([], ce) by unfold stopVal; rw [Hce.out, if_pos h0])
    clear h0
    go_wp2
    go_ret2
    exact StR.mk Hr.out rfl hb Cells.nil
  case pos =>
  subst h0
  have h00 : ((0 : Int) != 0) = false := rfl
  go_upto_region 4 with fail
  have hJ := Blk.new W1 108 (JbV.enc v ts)
  have hx2 := ext_alloc W1 (.cells (JbV.enc v ts).toArray 108)
  unfold JbV.enc at hJ hx2
  have q0 : W1.cell? ⟨w.heap.size, 0, none⟩ = _ := hP.cell rfl
  have q1 : W1.cell? ⟨w.heap.size, 1, none⟩ = _ := hP.cell rfl
  have q2 : W1.cell? ⟨w.heap.size, 2, none⟩ = _ := hP.cell rfl
  have q3 : W1.cell? ⟨w.heap.size, 3, none⟩ = _ := hP.cell rfl
  have q4 : W1.cell? ⟨w.heap.size, 4, none⟩ = _ := hP.cell rfl
  have q5 : W1.cell? ⟨w.heap.size, 5, none⟩ = _ := hP.cell rfl
  have q6 : W1.cell? ⟨w.heap.size, 6, none⟩ = _ := hP.cell rfl
  go_upto_region 5 with fail
  change Blk (W1.alloc (.cells #[.slice v.x.A v.x.l.lanes.length v.x.c, .int .i64 v.x.l.height, .int .i64 v.x.l.carries, .int .i64 v.x.l.empty, .int .i64 v.x.l.rear, .int .i64 v.x.l.axle, .int .i64 v.x.l.deck, .slice v.T ts.length v.cT] 108)) _ _ _ at hJ
  change Below W1.heap.size W1 (W1.alloc (.cells #[.slice v.x.A v.x.l.lanes.length v.x.c, .int .i64 v.x.l.height, .int .i64 v.x.l.carries, .int .i64 v.x.l.empty, .int .i64 v.x.l.rear, .int .i64 v.x.l.axle, .int .i64 v.x.l.deck, .slice v.T ts.length v.cT] 108)) at hx2
  generalize W1.alloc (.cells #[.slice v.x.A v.x.l.lanes.length v.x.c, .int .i64 v.x.l.height, .int .i64 v.x.l.carries, .int .i64 v.x.l.empty, .int .i64 v.x.l.rear, .int .i64 v.x.l.axle, .int .i64 v.x.l.deck, .slice v.T ts.length v.cT] 108) = W2 at *
  clear q0 q1 q2 q3 q4 q5 q6
  have hPJ := hP.lt
  replace hb := ext_trans hb hx2
  replace hP := hP.ext hx2
  have D2 := Lib.hid (C2.out W2 hb (by first | rfl | trivial))
  unfold JbV.val at D2
  clear hx2 C2
  have q0 : W2.cell? ⟨W1.heap.size, 0, none⟩ = _ := hJ.cell rfl
  have q1 : W2.cell? ⟨W1.heap.size, 1, none⟩ = _ := hJ.cell rfl
  have q2 : W2.cell? ⟨W1.heap.size, 2, none⟩ = _ := hJ.cell rfl
  have q3 : W2.cell? ⟨W1.heap.size, 3, none⟩ = _ := hJ.cell rfl
  have q4 : W2.cell? ⟨W1.heap.size, 4, none⟩ = _ := hJ.cell rfl
  have q5 : W2.cell? ⟨W1.heap.size, 5, none⟩ = _ := hJ.cell rfl
  have q6 : W2.cell? ⟨W1.heap.size, 6, none⟩ = _ := hJ.cell rfl
  have q7 : W2.cell? ⟨W1.heap.size, 7, none⟩ = _ := hJ.cell rfl
  have hJlt := hJ.lt
  generalize hrb : rightB v.x.l ts (rows rs) = rb at *
  have Hrb := Lib.hid hrb
  clear hrb
  go_wp2_with fail
  refine (D2.out).mono ?_; rintro e W3 ⟨rfl, hx⟩
  replace hb := ext_trans hb hx
  replace hP := hP.ext hx
  replace hJ := hJ.ext hx
  clear q0 q1 q2 q3 q4 q5 q6 q7
  clear hx D2 hJlt
  cases rb
  case false =>
    have Hr := Lib.hid (show stopVal v.x.l ts (rows rs) bs = ([], 9) by unfold stopVal; rw [Hce.out, Hrb.out, if_neg (by simp), if_pos rfl])
    go_wp2
    go_ret2
    exact StR.mk Hr.out rfl hb Cells.nil
  case true =>
  have HV := Lib.hid (show stopVal v.x.l ts (rows rs) bs = if roadE bs ≠ 0 then ([], roadE bs) else (stopsL v.x.l ts (rows rs) bs, 0) by unfold stopVal; rw [Hce.out, Hrb.out, if_neg (by simp), if_neg (by simp)])
  have HR := Lib.hid (right_iff.1 Hrb.out)
  have HO := Lib.hid (checkE_zero.1 Hce.out)
  clear Hrb Hce
  by_cases h30 : 30 < q
  · have h30' : (30 : Int) < (q : Int) := by omega
    have Hr := Lib.hid (show stopVal v.x.l ts (rows rs) bs = ([], 3) by rw [HV.out, show roadE bs = 3 by unfold roadE; rw [Hq.out, if_pos h30]]; rfl)
    clear h30
    go_wp2
    go_ret2
    exact StR.mk Hr.out rfl hb Cells.nil
  have h30' : ¬ (30 : Int) < (q : Int) := by omega
  have CA := Lib.hid (all_br 83 #[] #[] Br.okB B q cB bs W3 (enters_of Try.func83 (by kernel_rfl) rfl) Hq.out (by omega) (HB.out.ext hb) (br_ok bs W3))
  have hroad : roadE bs = if bs.all Br.okB then 0 else 1 := by unfold roadE; rw [Hq.out, if_neg h30]
  rw [hroad] at HV
  generalize hba : bs.all Br.okB = ba at *
  have Hba := Lib.hid hba
  clear hba hroad
  go_wp2_with fail
  refine (CA.out).mono ?_; rintro e W4 ⟨rfl, hx⟩
  replace hb := ext_trans hb hx
  replace hP := hP.ext hx
  replace hJ := hJ.ext hx
  clear hx CA
  cases ba
  · have Hr := Lib.hid (show stopVal v.x.l ts (rows rs) bs = ([], 1) by rw [HV.out]; rfl)
    go_wp2
    go_ret2
    exact StR.mk Hr.out rfl hb Cells.nil
  have Hr := Lib.hid (show stopVal v.x.l ts (rows rs) bs = (stopsL v.x.l ts (rows rs) bs, 0) by rw [HV.out]; rfl)
  have Hball := Lib.hid (fun b hb => br_bd (List.all_eq_true.1 Hba.out b hb))
  have CC := Lib.hid (concat_any R k cR rs W4 Hk.out hk1 (HM.out.ext hb) HF.out)
  have hin : InR ts.length (rows rs).flatten := fun y hy => mem_upto.1 (HR.out.perm.mem_iff.1 hy)
  have Hin := Lib.hid hin
  have h14 := HO.out.2.1
  have hfl : (rows rs).flatten.length ≤ 14 := by
    have h1 := HR.out.perm.length_eq
    rw [upto_len] at h1
    omega
  have hml := massL_bd HO.out.2.2 hin
  have hml2 : 0 ≤ massL ts (rows rs).flatten ∧ massL ts (rows rs).flatten ≤ 1400000 := by omega
  have hhl := highL_bd HO.out.2.2 _ hin
  have hlm := HO.out.1.many
  have CM := Lib.hid (fun V (hV : Below w.heap.size w V) (A1 : Option Addr) (n1 c1 : Nat) (l : List Int) => fun a b c d => mass_any v ts A1 n1 c1 l V ⟨HL.out.ext hV, HT.out.ext hV, by omega, by omega⟩ HO.out.2.2 a b c d)
  have CH := Lib.hid (fun V (hV : Below w.heap.size w V) (A1 : Option Addr) (n1 c1 : Nat) (l : List Int) => fun a b c d => high_any v ts A1 n1 c1 l V ⟨HL.out.ext hV, HT.out.ext hV, by omega, by omega⟩ HO.out.2.2 a b c d)
  unfold JbV.val at CM CH
  have hem := HO.out.1.empty
  have hdk := HO.out.1.deck
  have Hst := Lib.hid (fun z (hz : z < bs.length) => stopsTo_succ v.x.l ts (rows rs).flatten bs z hz)
  have Hsl := Lib.hid (fun z => stopsTo_len v.x.l ts (rows rs).flatten bs z)
  unfold stopsL at Hr
  rw [Hq.out] at Hr
  have Hs0 := Lib.hid (show stopsTo v.x.l ts (rows rs).flatten bs 0 = [] from rfl)
  unfold stpB at Hst
  clear hin hml HV Hba
  generalize stopsTo v.x.l ts (rows rs).flatten bs = St at *
  generalize (rows rs).flatten = F at *
  generalize hMA : massL ts F = MA at *
  generalize hHI : highL ts F = HI at *
  have HMA := Lib.hid hMA
  have HHI := Lib.hid hHI
  clear hMA hHI
  go_wp2_with fail
  refine (CC.out).mono ?_; rintro e W5 ⟨v5, rfl, ho5, hx⟩
  obtain ⟨A5, c5, rfl, -, -, hc5⟩ := ho5.cells Go.Bs.encI_len
  replace hb := ext_trans hb hx
  replace hP := hP.ext hx
  replace hJ := hJ.ext hx
  clear hx CC ho5
  go_wp2
  go_loopw [13, 14, 15, 42] (fun s _ _ t wr => ∃ z : Nat, t = .int .i64 z ∧ z ≤ q ∧ OwnL wr W5.heap.size 3 1 Go.Bs.encI s (St z) ∧ Below W5.heap.size W5 wr) (fun _ _ _ t _ => q - (intOf t).toNat)
  case atStart => exact ⟨0, rfl, by omega, by rw [Hs0.out]; exact OwnL.nil, Below.refl _ _⟩
  case round =>
    obtain ⟨z, rfl, hz, ho, hbr⟩ := hrel
    by_cases hlt : z < q
    · have hlt' : (z : Int) < (q : Int) := by omega
      have hz1 : z < bs.length := by rw [Hq.out]; exact hlt
      have hz0 : (0 : Int) ≤ (z : Int) := by omega
      have Hst1 := Lib.hid (Hst.out z hz1)
      have hsl := Hsl.out z
      have hbb := Hball.out _ (List.getElem_mem hz1)
      obtain ⟨b4, off4, rfl, -, d0, d1⟩ := (HB.out.ext (ext_trans hb hbr)).at2 hz1 rfl
      generalize bs[z].limit = lim at *
      generalize bs[z].clear = clr at *
      have hN := Blk.new wr 101 [.int .i64 lim, .int .i64 clr]
      have hxN := ext_alloc wr (.cells #[.int .i64 lim, .int .i64 clr] 101)
      go_upto_region 16 with fail
      change Blk (wr.alloc (.cells #[.int .i64 lim, .int .i64 clr] 101)) _ _ _ at hN
      change Below wr.heap.size wr (wr.alloc (.cells #[.int .i64 lim, .int .i64 clr] 101)) at hxN
      clear d0 d1
      replace ho := ho.ext hxN
      have hbx := hbr.trans (hxN.mono hbr.size)
      have hWr := hbr.size
      generalize wr.alloc (.cells #[.int .i64 lim, .int .i64 clr] 101) = V9 at *
      refine Dr.wp_region_plan 20 [] (.q [0, 1, 2, 3, 6, 7] (.e1 4 (.q [5, 8, 9, 10, 11, 12, 13, 16, 17] (.e1 14 (.q [15, 18, 19] .done))))) (by kernel_rfl) (by kernel_rfl) ?_
      have hbd := ext_trans hb hbx.drew
      have hPd := (hP.ext hbx).drew
      have hJd := (hJ.ext hbx).drew
      have hNd := hN.drew
      replace ho := ho.drew
      have hbr0 := hbx.drew
      have hcd := (hc5.ext hbx).drew
      clear hbx hxN hN
      generalize World.drew V9 = V0 at *
      have p3 := Dr.cell0 (hPd.cell (i := 3) rfl)
      have n0 := Dr.cell0 (hNd.cell (i := 0) rfl)
      have q0 := Dr.cell0 (hJd.cell (i := 0) rfl)
      have q1 := Dr.cell0 (hJd.cell (i := 1) rfl)
      have q2 := Dr.cell0 (hJd.cell (i := 2) rfl)
      have q3 := Dr.cell0 (hJd.cell (i := 3) rfl)
      have q4 := Dr.cell0 (hJd.cell (i := 4) rfl)
      have q5 := Dr.cell0 (hJd.cell (i := 5) rfl)
      have q6 := Dr.cell0 (hJd.cell (i := 6) rfl)
      have q7 := Dr.cell0 (hJd.cell (i := 7) rfl)
      with_reducible refine Dr.plan_q (l := [_, _, _, _, _, _]) (by with_unfolding_all exact rfl) (fun K hK => ?_)
      iterate 6 (go_big_quiet_step (fail))
      refine wpQuiet_nil (hK _ ?_); clear hK K
      clear q0 q1 q2 q3 q4 q5 q6 q7
      clear p3 n0
      have CM1 := Lib.hid (CM.out _ hbd A5 F.length c5 F rfl (by omega) Hin.out hcd)
      rw [HMA.out] at CM1
      refine Dr.plan_e rfl (by rfl) (fun K hK => ?_)
      go_wp2_with fail
      refine (CM1.out).mono ?_; rintro e V1 ⟨rfl, hx⟩
      refine hK _ _ (.of hx) ?_; clear hK K
      replace hbd := ext_trans hbd hx
      replace hPd := hPd.ext hx
      replace hJd := hJd.ext hx
      replace hNd := hNd.ext hx
      replace ho := ho.ext hx
      replace hbr0 := hbr0.trans (hx.mono hbr0.size)
      replace hcd := hcd.ext hx
      clear CM1 hx
      have p6 := Dr.cell0 (hPd.cell (i := 6) rfl)
      have n1 := Dr.cell0 (hNd.cell (i := 1) rfl)
      have q0 := Dr.cell0 (hJd.cell (i := 0) rfl)
      have q1 := Dr.cell0 (hJd.cell (i := 1) rfl)
      have q2 := Dr.cell0 (hJd.cell (i := 2) rfl)
      have q3 := Dr.cell0 (hJd.cell (i := 3) rfl)
      have q4 := Dr.cell0 (hJd.cell (i := 4) rfl)
      have q5 := Dr.cell0 (hJd.cell (i := 5) rfl)
      have q6 := Dr.cell0 (hJd.cell (i := 6) rfl)
      have q7 := Dr.cell0 (hJd.cell (i := 7) rfl)
      by_cases hlmt : lim < v.x.l.empty + MA
      case pos =>
        have hs : St (z + 1) = St z ++ [(z : Int)] := by rw [Hst1.out, decide_eq_true hlmt, Bool.true_or, if_pos rfl]
        have Hs := Lib.hid hs
        clear hs Hst1
        with_reducible refine Dr.plan_q (l := [_, _, _, _, _, _, _, _, _]) (by with_unfolding_all exact rfl) (fun K hK => ?_)
        iterate 9 (go_big_quiet_step (fail))
        refine wpQuiet_nil (hK _ ?_); clear hK K
        refine Dr.plan_e_skip rfl (by rfl) ?_; go_frame
        with_reducible refine Dr.plan_q (l := [_, _, _]) (by with_unfolding_all exact rfl) (fun K hK => ?_)
        iterate 3 (go_big_quiet_step (fail))
        refine wpQuiet_nil (hK _ ?_); clear hK K
        refine Dr.plan_end rfl ?_
        clear q0 q1 q2 q3 q4 q5 q6 q7
        clear p6 n1
        go_upto_region 18 with (at_builtin; refine app1 Go.Bs.encI 35 3 1 8 et35 (by decide) (by decide) Go.Bs.encI_len Go.Bs.encI_one rfl _ _ rfl W5.heap.size _ (St z) rfl (ho.alloc _) V1.heap.size rfl (z : Int) (Go.Bs.encI_cell ((Blk.new V1 3 [.int .i64 (z : Int)]).cell rfl)) (by have := hsl; omega) (by have := hbr0.size; simp; omega) ?_; intro g' cap' V2 hown2 hb2 _ _)
        have hbr2 := hbr0.trans (((ext_alloc V1 (.cells #[.int .i64 (z : Int)] 3)).mono hbr0.size).trans hb2)
        go_wp2
        go_roundw
        case rel => exact ⟨z + 1, by go_num, by omega, by rw [Hs.out]; exact hown2, hbr2⟩
        case measure => simp [intOf]; omega
      case neg =>
      have hlm' : ¬ lim < v.x.l.empty + MA := hlmt
      have hlm3 : decide (lim < v.x.l.empty + MA) = false := decide_eq_false hlmt
      with_reducible refine Dr.plan_q (l := [_, _, _, _, _, _, _, _, _]) (by with_unfolding_all exact rfl) (fun K hK => ?_)
      iterate 9 (go_big_quiet_step (fail))
      refine wpQuiet_nil (hK _ ?_); clear hK K
      clear q0 q1 q2 q3 q4 q5 q6 q7
      clear p6 n1
      have CH1 := Lib.hid (CH.out _ hbd A5 F.length c5 F rfl (by omega) Hin.out hcd)
      rw [HHI.out] at CH1
      refine Dr.plan_e rfl (by rfl) (fun K hK => ?_)
      go_wp2_with fail
      refine (CH1.out).mono ?_; rintro e V3 ⟨rfl, hx⟩
      refine hK _ _ (.of hx) ?_; clear hK K
      replace hbd := ext_trans hbd hx
      replace ho := ho.ext hx
      replace hbr0 := hbr0.trans (hx.mono hbr0.size)
      clear CH1 hx
      with_reducible refine Dr.plan_q (l := [_, _, _]) (by with_unfolding_all exact rfl) (fun K hK => ?_)
      iterate 3 (go_big_quiet_step (fail))
      refine wpQuiet_nil (hK _ ?_); clear hK K
      refine Dr.plan_end rfl ?_
      by_cases hcl : clr < v.x.l.deck + HI
      · have hs : St (z + 1) = St z ++ [(z : Int)] := by rw [Hst1.out, decide_eq_true hcl, Bool.or_true, if_pos rfl]
        have Hs := Lib.hid hs
        clear hs Hst1
        go_upto_region 18 with (at_builtin; refine app1 Go.Bs.encI 35 3 1 8 et35 (by decide) (by decide) Go.Bs.encI_len Go.Bs.encI_one rfl _ _ rfl W5.heap.size _ (St z) rfl (ho.alloc _) V3.heap.size rfl (z : Int) (Go.Bs.encI_cell ((Blk.new V3 3 [.int .i64 (z : Int)]).cell rfl)) (by have := hsl; omega) (by have := hbr0.size; simp; omega) ?_; intro g' cap' V2 hown2 hb2 _ _)
        have hbr2 := hbr0.trans (((ext_alloc V3 (.cells #[.int .i64 (z : Int)] 3)).mono hbr0.size).trans hb2)
        go_wp2
        go_roundw
        case rel => exact ⟨z + 1, by go_num, by omega, by rw [Hs.out]; exact hown2, hbr2⟩
        case measure => simp [intOf]; omega
      · have hs : St (z + 1) = St z := by rw [Hst1.out, decide_eq_false (show ¬ clr < v.x.l.deck + HI by omega), decide_eq_false (show ¬ lim < v.x.l.empty + MA by omega), Bool.or_false, if_neg (by decide)]
        have Hs := Lib.hid hs
        clear hs Hst1
        go_wp2
        go_roundw
        case rel => exact ⟨z + 1, by go_num, by omega, by rw [Hs.out]; exact ho, hbr0⟩
        case measure => simp [intOf]; omega
    · obtain rfl : z = q := by omega
      obtain ⟨A1, c1, rfl, -, -, hc1⟩ := ho.cells Go.Bs.encI_len
      have hbf := ext_trans hb hbr
      generalize hln : (St z).length = ln at *
      have Hln := Lib.hid hln
      clear hln
      go_wp2
      go_ret2
      exact StR.mk Hr.out Hln.out hbf hc1
end Go.Proofs.Ytbpmfaibcibleaa

/- The law WagonSteps: its walk. (Printed by mk_stqa.py.) -/
import Derived.Test.YtbpmfaibcibleaaLawA
import Derived.Test.YtbpmfaibcibleaaClbT
import Derived.Test.YtbpmfaibcibleaaClbU
import Derived.Test.YtbpmfaibcibleaaLhpN
import Derived.Test.YtbpmfaibcibleaaLhpG
import Derived.Test.YtbpmfaibcibleaaStpP
namespace Go.Proofs.Ytbpmfaibcibleaa
open Go.RowKit Go.Bs Go.Wg Go.Pl Go.Sort
set_option maxRecDepth 100000 in
set_option maxHeartbeats 4000000 in
theorem steps_law (A : Option Addr) (n c : Nat) (h ca em re ax dk : Int) (l : List Int) (T : Option Addr) (m cT : Nat) (ts : List Th) (B : Option Addr) (q cB : Nat) (cl : List Int) (w : World) (hn : l.length = n) (hn0 : n ≤ 9223372036854775807) (hd : Cells w A 1 Go.Bs.encI l) (hm : ts.length = m) (hm0 : m ≤ 9223372036854775807) (ht : Cells w T 4 Th.enc ts) (hq : cl.length = q) (hq0 : q ≤ 9223372036854775807) (hB : Cells w B 1 Go.Bs.encI cl) :
    Calls Try.prog 10 #[.agg #[.slice A n c, .int .i64 h, .int .i64 ca, .int .i64 em, .int .i64 re, .int .i64 ax, .int .i64 dk], .slice T m cT, .slice B q cB] w fun e w' => e = .returned (.bool true) ∧ Below w.heap.size w w' := by
  subst hn hm hq
  have CV := Lib.hid (fun V (hV : Below w.heap.size w V) => validC A c h ca em re ax dk l T cT ts V hn0 hm0 (hd.ext hV) (ht.ext hV))
  generalize hb1 : decide (checkE ⟨l, h, ca, em, re, ax, dk⟩ ts = 0) = b1 at *
  have Hb1 := Lib.hid hb1
  have Hd := Lib.hid hd
  have Ht := Lib.hid ht
  have HB := Lib.hid hB
  clear hb1 hd ht hB
  have hb := ext_alloc w (.cells #[.slice A l.length c, .int .i64 h, .int .i64 ca, .int .i64 em, .int .i64 re, .int .i64 ax, .int .i64 dk] 37)
  have hP := Blk.new w 37 [.slice A l.length c, .int .i64 h, .int .i64 ca, .int .i64 em, .int .i64 re, .int .i64 ax, .int .i64 dk]
  go_enter Try.func10, Try.ntmps10
  go_upto_region 1 with fail
  change Blk (w.alloc (.cells #[.slice A l.length c, .int .i64 h, .int .i64 ca, .int .i64 em, .int .i64 re, .int .i64 ax, .int .i64 dk] 37)) _ _ _ at hP
  change Below w.heap.size w (w.alloc (.cells #[.slice A l.length c, .int .i64 h, .int .i64 ca, .int .i64 em, .int .i64 re, .int .i64 ax, .int .i64 dk] 37)) at hb
  generalize w.alloc (.cells #[.slice A l.length c, .int .i64 h, .int .i64 ca, .int .i64 em, .int .i64 re, .int .i64 ax, .int .i64 dk] 37) = W0 at *
  have q0 : W0.cell? ⟨w.heap.size, 0, none⟩ = _ := hP.cell rfl
  have q1 : W0.cell? ⟨w.heap.size, 1, none⟩ = _ := hP.cell rfl
  have q2 : W0.cell? ⟨w.heap.size, 2, none⟩ = _ := hP.cell rfl
  have q3 : W0.cell? ⟨w.heap.size, 3, none⟩ = _ := hP.cell rfl
  have q4 : W0.cell? ⟨w.heap.size, 4, none⟩ = _ := hP.cell rfl
  have q5 : W0.cell? ⟨w.heap.size, 5, none⟩ = _ := hP.cell rfl
  have q6 : W0.cell? ⟨w.heap.size, 6, none⟩ = _ := hP.cell rfl
  go_wp2_with fail
  refine (CV.out _ hb).mono ?_; rintro e W1 ⟨rfl, hx⟩
  replace hb := ext_trans hb hx
  replace hP := hP.ext hx
  clear hx CV
  clear q0 q1 q2 q3 q4 q5 q6
  cases b1
  · go_wp2_with fail
    refine (awake_any _).mono ?_; rintro e Wz ⟨rfl, hx⟩
    replace hb := ext_trans hb hx
    go_wp2
    go_ret
    exact ⟨rfl, hb⟩
  have h0 := of_decide_eq_true Hb1.out
  by_cases h20 : 20 < cl.length
  · have h20' : (20 : Int) < (cl.length : Int) := by omega
    go_wp2_with fail
    refine (awake_any _).mono ?_; rintro e Wz ⟨rfl, hx⟩
    replace hb := ext_trans hb hx
    go_wp2
    go_ret
    exact ⟨rfl, hb⟩
  have h20' : ¬ (20 : Int) < (cl.length : Int) := by omega
  obtain ⟨hlo, h14, hok⟩ := checkE_zero.1 h0
  have hlm := hlo.many
  simp only at hlm
  have hc14 : cargoE ts 14 = 0 := cargoE_zero.2 ⟨h14, hok⟩
  have CL := Lib.hid (fun V (hV : Below w.heap.size w V) => lorryC A c h ca em re ax dk l V (by omega) (Hd.out.ext hV))
  have CTh := Lib.hid (fun V (hV : Below w.heap.size w V) => thingsC T cT ts V (by omega) (Ht.out.ext hV))
  have CLi := Lib.hid (fun V (A' : Option Addr) (c' : Nat) (l' : List Int) (h5 : l'.length ≤ 1000) (hc : Cells V A' 1 Go.Bs.encI l') => listC A' c' l' V (by omega) hc)
  have CI := Lib.hid (fun V (hV : Below w.heap.size w V) (A' : Option Addr) (c' : Nat) (l' : List Int) (h5 : l'.length ≤ 1000) (hc : Cells V A' 1 Go.Bs.encI l') => IsClimb_any T ts.length cT ts A' l'.length c' l' V rfl (by omega) (Ht.out.ext hV) rfl (by omega) hc)
  have CP := Lib.hid (fun V (A1 : Option Addr) (d1 : Nat) (T1 : Option Addr) (e1 : Nat) (A' : Option Addr) (c' : Nat) (l' : List Int) (h5 : l'.length ≤ 1000) (h6 : Cells V A1 1 Go.Bs.encI l) (h7 : Cells V T1 4 Th.enc ts) (hc : Cells V A' 1 Go.Bs.encI l') => ProveClimb_any ⟨⟨⟨l, h, ca, em, re, ax, dk⟩, A1, d1⟩, T1, e1⟩ ts A' l'.length c' l' V (by simp only; omega) (by omega) h6 h7 rfl (by omega) hc)
  have CLo := Lib.hid (fun V (A1 : Option Addr) (d1 : Nat) (T1 : Option Addr) (e1 : Nat) (h6 : Cells V A1 1 Go.Bs.encI l) (h7 : Cells V T1 4 Th.enc ts) => Load_any ⟨⟨⟨l, h, ca, em, re, ax, dk⟩, A1, d1⟩, T1, e1⟩ ts V (by simp only; omega) (by omega) h6 h7)
  unfold LoV.val at CP CLo
  unfold PcR at CLo
  simp only at CP CLo
  rw [packRes_code h0] at CLo
  have CC := Lib.hid (fun V (T1 : Option Addr) (e1 : Nat) (h7 : Cells V T1 4 Th.enc ts) => Climb_any ts T1 ts.length e1 V rfl (by omega) h7)
  have hpv : ∀ l', proveB ⟨l, h, ca, em, re, ax, dk⟩ ts l' = (decide (l.length < l'.length) && climbB ts l') := fun l' => by
    unfold proveB; rw [decide_eq_true h0, Bool.true_and]
  simp only [hpv] at CP
  have hxl : (climbL ts).length ≤ 15 := by
    have := clm_len' ts (lng ts) 0 (-1)
    show (clm ts (lng ts) 0 (-1)).length ≤ 15
    omega
  have Hsome := Lib.hid (fun (a : (climbL ts).length ≤ l.length) (b : ∀ z ∈ l, isum (ts.map Th.long) ≤ z) (c : carB ⟨l, h, ca, em, re, ax, dk⟩ ts (upto ts.length) = true) => show loadC2 ⟨l, h, ca, em, re, ax, dk⟩ ts true = 0 by
    unfold loadC2; rw [if_pos (climb_some hlo hok a b c)])
  have Hnone := Lib.hid (fun (l' : List Int) (a : l.length < l'.length) (b : climbB ts l' = true) => show loadC2 ⟨l, h, ca, em, re, ax, dk⟩ ts true = 7 by
    unfold loadC2; rw [climb_none (j := ⟨l, h, ca, em, re, ax, dk⟩) (by simp only; omega) b a]; rfl)
  have Hcar := Lib.hid (fun (a : carB ⟨l, h, ca, em, re, ax, dk⟩ ts (upto ts.length) = false) => show loadC2 ⟨l, h, ca, em, re, ax, dk⟩ ts true = 7 by
    unfold loadC2 packL; rw [a]; rfl)
  unfold carB at Hsome Hcar
  simp only at Hsome Hcar
  have Hmost := Lib.hid (fun (a : climbB ts cl = true) => climb_most hok a)
  have Hcx := Lib.hid (climbL_climb (ts := ts))
  have CM := Lib.hid (fun V (hV : Below w.heap.size w V) (A1 : Option Addr) (c1 : Nat) (h5 : Cells V A1 1 Go.Bs.encI (upto ts.length)) => Masses_any T ts.length cT ts A1 ts.length c1 (upto ts.length) V rfl hok (Ht.out.ext hV) (upto_len _) (by omega) (fun z hz => mem_upto.1 hz) h5)
  have CH := Lib.hid (fun V (hV : Below w.heap.size w V) (A1 : Option Addr) (c1 : Nat) (h5 : Cells V A1 1 Go.Bs.encI (upto ts.length)) => Highest_any T ts.length cT ts A1 ts.length c1 (upto ts.length) V rfl (Ht.out.ext hV) (upto_len _) (by omega) (fun z hz => mem_upto.1 hz) h5)
  have Hokl := Lib.hid (fun t ht => (hok t ht).long)
  generalize loadC2 ⟨l, h, ca, em, re, ax, dk⟩ ts true = le at *
  clear hpv h0 hlo Hb1 hok
  have q0 : W1.cell? ⟨w.heap.size, 0, none⟩ = _ := hP.cell rfl
  have q1 : W1.cell? ⟨w.heap.size, 1, none⟩ = _ := hP.cell rfl
  have q2 : W1.cell? ⟨w.heap.size, 2, none⟩ = _ := hP.cell rfl
  have q3 : W1.cell? ⟨w.heap.size, 3, none⟩ = _ := hP.cell rfl
  have q4 : W1.cell? ⟨w.heap.size, 4, none⟩ = _ := hP.cell rfl
  have q5 : W1.cell? ⟨w.heap.size, 5, none⟩ = _ := hP.cell rfl
  have q6 : W1.cell? ⟨w.heap.size, 6, none⟩ = _ := hP.cell rfl
  go_wp2_with fail
  refine (CL.out _ hb).mono ?_; rintro e V1 ⟨⟨A1, d1, rfl, hA1⟩, hx⟩
  replace hb := ext_trans hb hx
  replace hP := hP.ext hx
  clear hx
  clear q0 q1 q2 q3 q4 q5 q6
  go_wp2_with fail
  refine (CTh.out _ hb).mono ?_; rintro e V2 ⟨⟨T1, e1, rfl, hT1⟩, hx⟩
  replace hb := ext_trans hb hx
  replace hP := hP.ext hx
  replace hA1 := hA1.ext hx
  clear hx
  go_wp2_with fail
  refine (CLo.out _ A1 d1 T1 e1 hA1 hT1).mono ?_; rintro e V3 ⟨hx, v1, rfl, ⟨Ap, cp, rp, rfl, -, -, -, -⟩⟩
  replace hb := ext_trans hb hx
  replace hP := hP.ext hx
  clear hx CLo hA1 hT1
  go_wp2_with fail
  refine (CTh.out _ hb).mono ?_; rintro e V4 ⟨⟨T1, e1, rfl, hT1⟩, hx⟩
  replace hb := ext_trans hb hx
  replace hP := hP.ext hx
  clear hx
  go_wp2_with fail
  refine (CC.out _ T1 e1 hT1).mono ?_; rintro e V5 ⟨hx, v1, rfl, hv1⟩
  replace hb := ext_trans hb hx
  replace hP := hP.ext hx
  rw [if_pos hc14] at hv1
  rw [hc14]
  obtain ⟨Ac, cc, rfl, -, -, hcl, -⟩ := hv1
  clear hx CC hT1 hc14
  have Hnx := Lib.hid (fun a => Hnone.out (climbL ts) a Hcx.out)
  have CIx := Lib.hid (fun V (hV : Below w.heap.size w V) (A' : Option Addr) (c' : Nat) (hc : Cells V A' 1 Go.Bs.encI (climbL ts)) => CI.out V hV A' c' (climbL ts) (by omega) hc)
  have CPx := Lib.hid (fun V (A1 : Option Addr) (d1 : Nat) (T1 : Option Addr) (e1 : Nat) (A' : Option Addr) (c' : Nat) (h6 : Cells V A1 1 Go.Bs.encI l) (h7 : Cells V T1 4 Th.enc ts) (hc : Cells V A' 1 Go.Bs.encI (climbL ts)) => CP.out V A1 d1 T1 e1 A' c' (climbL ts) (by omega) h6 h7 hc)
  simp only [Hcx.out, Bool.and_true] at CIx CPx
  have hpb : (decide (l.length < cl.length) && climbB ts cl) = true → le = 7 := fun h => by
    rw [Bool.and_eq_true, decide_eq_true_eq] at h
    exact Hnone.out cl h.1 h.2
  have CIc := Lib.hid (fun V (hV : Below w.heap.size w V) => CI.out V hV B cB cl (by omega) (HB.out.ext hV))
  have CPc := Lib.hid (fun V (A1 : Option Addr) (d1 : Nat) (T1 : Option Addr) (e1 : Nat) (A' : Option Addr) (c' : Nat) (h6 : Cells V A1 1 Go.Bs.encI l) (h7 : Cells V T1 4 Th.enc ts) (hc : Cells V A' 1 Go.Bs.encI cl) => CP.out V A1 d1 T1 e1 A' c' cl (by omega) h6 h7 hc)
  generalize hpbe : (decide (l.length < cl.length) && climbB ts cl) = pb at *
  generalize climbB ts cl = cb at *
  have Hpb := Lib.hid hpb
  clear hpb hpbe CI CP Hnone Hcx
  generalize climbL ts = x at *
  go_upto_region 5 with fail
  go_cut [87] (fun v W => v = .bool false ∧ Below w.heap.size w W ∧ Blk W w.heap.size 37 [.slice A l.length c, .int .i64 h, .int .i64 ca, .int .i64 em, .int .i64 re, .int .i64 ax, .int .i64 dk])
  case first =>
    refine Dr.wp_region_plan 49 [] (.q [0, 1, 2, 3, 4] (.e1 5 (.q [6, 7, 8, 9, 11, 13] (.e1 10 (.e1 12 (.e1 14 (.e1 15 (.q [16, 17, 18, 19, 20, 21, 22, 24, 26, 29, 30, 31, 32, 33, 34] (.e1 23 (.e1 25 (.e1 27 (.e1 28 (.q [35, 36, 37, 38, 39] (.e1 40 (.q [41, 42, 43, 44, 45, 46, 47, 48] .done))))))))))))))) (by kernel_rfl) (by kernel_rfl) ?_
    replace hb := hb.drew
    replace hP := hP.drew
    replace hcl : Cells (World.drew V5) Ac 1 Go.Bs.encI x := hcl
    generalize World.drew V5 = Y0 at *
    with_reducible refine Dr.plan_q (l := [_, _, _, _, _]) (by with_unfolding_all exact rfl) (fun K hK => ?_)
    iterate 5 (go_big_quiet_step (fail))
    refine wpQuiet_nil (hK _ ?_); clear hK K
    refine Dr.plan_e rfl (by rfl) (fun K hK => ?_)
    go_wp2_with fail
    refine (CIx.out _ hb Ac cc hcl).mono ?_; rintro e Y1 ⟨rfl, hx⟩
    refine hK _ _ (.of hx) ?_; clear hK K
    replace hb := ext_trans hb hx
    replace hP := hP.ext hx
    replace hcl := hcl.ext hx
    clear hx CIx
    have q0 := Dr.cell0 (hP.cell (i := 0) rfl)
    have q1 := Dr.cell0 (hP.cell (i := 1) rfl)
    have q2 := Dr.cell0 (hP.cell (i := 2) rfl)
    have q3 := Dr.cell0 (hP.cell (i := 3) rfl)
    have q4 := Dr.cell0 (hP.cell (i := 4) rfl)
    have q5 := Dr.cell0 (hP.cell (i := 5) rfl)
    have q6 := Dr.cell0 (hP.cell (i := 6) rfl)
    with_reducible refine Dr.plan_q (l := [_, _, _, _, _, _]) (by with_unfolding_all exact rfl) (fun K hK => ?_)
    iterate 6 (go_big_quiet_step (fail))
    refine wpQuiet_nil (hK _ ?_); clear hK K
    clear q0 q1 q2 q3 q4 q5 q6
    refine Dr.plan_e rfl (by rfl) (fun K hK => ?_)
    go_wp2_with fail
    refine (CL.out _ hb).mono ?_; rintro e Y2 ⟨⟨A1, d1, rfl, hA1⟩, hx⟩
    refine hK _ _ (.of hx) ?_; clear hK K
    replace hb := ext_trans hb hx
    replace hP := hP.ext hx
    replace hcl := hcl.ext hx
    clear hx
    refine Dr.plan_e rfl (by rfl) (fun K hK => ?_)
    go_wp2_with fail
    refine (CTh.out _ hb).mono ?_; rintro e Y3 ⟨⟨T1, e1, rfl, hT1⟩, hx⟩
    refine hK _ _ (.of hx) ?_; clear hK K
    replace hb := ext_trans hb hx
    replace hP := hP.ext hx
    replace hcl := hcl.ext hx
    replace hA1 := hA1.ext hx
    clear hx
    refine Dr.plan_e rfl (by rfl) (fun K hK => ?_)
    go_wp2_with fail
    refine (CLi.out _ B cB cl (by omega) (HB.out.ext hb)).mono ?_; rintro e Y4 ⟨⟨A2, c2, rfl, hA2⟩, hx⟩
    refine hK _ _ (.of hx) ?_; clear hK K
    replace hb := ext_trans hb hx
    replace hP := hP.ext hx
    replace hcl := hcl.ext hx
    replace hA1 := hA1.ext hx
    replace hT1 := hT1.ext hx
    clear hx
    refine Dr.plan_e rfl (by rfl) (fun K hK => ?_)
    go_wp2_with fail
    refine (CPc.out _ A1 d1 T1 e1 A2 c2 hA1 hT1 hA2).mono ?_; rintro e Y5 ⟨rfl, hx⟩
    refine hK _ _ (.of hx) ?_; clear hK K
    replace hb := ext_trans hb hx
    replace hP := hP.ext hx
    replace hcl := hcl.ext hx
    clear hx CPc hA1 hT1 hA2
    cases pb
    · clear Hpb
      by_cases hlx : l.length < x.length
      · have hlx' : (l.length : Int) < (x.length : Int) := by omega
        have hlx2 : decide (l.length < x.length) = true := decide_eq_true hlx
        have q0 := Dr.cell0 (hP.cell (i := 0) rfl)
        have q1 := Dr.cell0 (hP.cell (i := 1) rfl)
        have q2 := Dr.cell0 (hP.cell (i := 2) rfl)
        have q3 := Dr.cell0 (hP.cell (i := 3) rfl)
        have q4 := Dr.cell0 (hP.cell (i := 4) rfl)
        have q5 := Dr.cell0 (hP.cell (i := 5) rfl)
        have q6 := Dr.cell0 (hP.cell (i := 6) rfl)
        with_reducible refine Dr.plan_q (l := [_, _, _, _, _, _, _, _, _, _, _, _, _, _, _]) (by with_unfolding_all exact rfl) (fun K hK => ?_)
        iterate 15 (go_big_quiet_step (fail))
        refine wpQuiet_nil (hK _ ?_); clear hK K
        clear q0 q1 q2 q3 q4 q5 q6
        refine Dr.plan_e rfl (by rfl) (fun K hK => ?_)
        go_wp2_with fail
        refine (CL.out _ hb).mono ?_; rintro e Y6 ⟨⟨A1, d1, rfl, hA1⟩, hx⟩
        refine hK _ _ (.of hx) ?_; clear hK K
        replace hb := ext_trans hb hx
        replace hP := hP.ext hx
        replace hcl := hcl.ext hx
        clear hx
        refine Dr.plan_e rfl (by rfl) (fun K hK => ?_)
        go_wp2_with fail
        refine (CTh.out _ hb).mono ?_; rintro e Y7 ⟨⟨T1, e1, rfl, hT1⟩, hx⟩
        refine hK _ _ (.of hx) ?_; clear hK K
        replace hb := ext_trans hb hx
        replace hP := hP.ext hx
        replace hcl := hcl.ext hx
        replace hA1 := hA1.ext hx
        clear hx
        refine Dr.plan_e rfl (by rfl) (fun K hK => ?_)
        go_wp2_with fail
        refine (CLi.out _ Ac cc x (by omega) hcl).mono ?_; rintro e Y8 ⟨⟨A2, c2, rfl, hA2⟩, hx⟩
        refine hK _ _ (.of hx) ?_; clear hK K
        replace hb := ext_trans hb hx
        replace hP := hP.ext hx
        replace hcl := hcl.ext hx
        replace hA1 := hA1.ext hx
        replace hT1 := hT1.ext hx
        clear hx
        refine Dr.plan_e rfl (by rfl) (fun K hK => ?_)
        go_wp2_with fail
        refine (CPx.out _ A1 d1 T1 e1 A2 c2 hA1 hT1 hA2).mono ?_; rintro e Y9 ⟨rfl, hx⟩
        refine hK _ _ (.of hx) ?_; clear hK K
        replace hb := ext_trans hb hx
        replace hP := hP.ext hx
        clear hx CPx hA1 hT1 hA2
        with_reducible refine Dr.plan_q (l := [_, _, _, _, _]) (by with_unfolding_all exact rfl) (fun K hK => ?_)
        iterate 5 (go_big_quiet_step (fail))
        refine wpQuiet_nil (hK _ ?_); clear hK K
        refine Dr.plan_e rfl (by rfl) (fun K hK => ?_)
        go_wp2_with fail
        refine (CIc.out _ hb).mono ?_; rintro e Ya ⟨rfl, hx⟩
        refine hK _ _ (.of hx) ?_; clear hK K
        replace hb := ext_trans hb hx
        replace hP := hP.ext hx
        clear hx CIc
        cases cb
        · with_reducible refine Dr.plan_q (l := [_, _, _, _, _, _, _, _]) (by with_unfolding_all exact rfl) (fun K hK => ?_)
          iterate 8 (go_big_quiet_step (fail))
          refine wpQuiet_nil (hK _ ?_); clear hK K
          refine Dr.plan_end rfl ?_
          go_wp2
          go_meet
          case rel => exact ⟨rfl, hb, hP⟩

        have hmo := Hmost.out rfl
        have hmo' : ¬ (x.length : Int) < (cl.length : Int) := by omega
        have hmo2 : ¬ x.length < cl.length := by omega
        with_reducible refine Dr.plan_q (l := [_, _, _, _, _, _, _, _]) (by with_unfolding_all exact rfl) (fun K hK => ?_)
        iterate 8 (go_big_quiet_step (fail))
        refine wpQuiet_nil (hK _ ?_); clear hK K
        refine Dr.plan_end rfl ?_
        go_wp2
        go_meet
        case rel => exact ⟨rfl, hb, hP⟩
      · have hlx' : ¬ (l.length : Int) < (x.length : Int) := by omega
        have hlx2 : decide (l.length < x.length) = false := decide_eq_false hlx
        have q0 := Dr.cell0 (hP.cell (i := 0) rfl)
        have q1 := Dr.cell0 (hP.cell (i := 1) rfl)
        have q2 := Dr.cell0 (hP.cell (i := 2) rfl)
        have q3 := Dr.cell0 (hP.cell (i := 3) rfl)
        have q4 := Dr.cell0 (hP.cell (i := 4) rfl)
        have q5 := Dr.cell0 (hP.cell (i := 5) rfl)
        have q6 := Dr.cell0 (hP.cell (i := 6) rfl)
        with_reducible refine Dr.plan_q (l := [_, _, _, _, _, _, _, _, _, _, _, _, _, _, _]) (by with_unfolding_all exact rfl) (fun K hK => ?_)
        iterate 15 (go_big_quiet_step (fail))
        refine wpQuiet_nil (hK _ ?_); clear hK K
        clear q0 q1 q2 q3 q4 q5 q6
        refine Dr.plan_e rfl (by rfl) (fun K hK => ?_)
        go_wp2_with fail
        refine (CL.out _ hb).mono ?_; rintro e Y6 ⟨⟨A1, d1, rfl, hA1⟩, hx⟩
        refine hK _ _ (.of hx) ?_; clear hK K
        replace hb := ext_trans hb hx
        replace hP := hP.ext hx
        replace hcl := hcl.ext hx
        clear hx
        refine Dr.plan_e rfl (by rfl) (fun K hK => ?_)
        go_wp2_with fail
        refine (CTh.out _ hb).mono ?_; rintro e Y7 ⟨⟨T1, e1, rfl, hT1⟩, hx⟩
        refine hK _ _ (.of hx) ?_; clear hK K
        replace hb := ext_trans hb hx
        replace hP := hP.ext hx
        replace hcl := hcl.ext hx
        replace hA1 := hA1.ext hx
        clear hx
        refine Dr.plan_e rfl (by rfl) (fun K hK => ?_)
        go_wp2_with fail
        refine (CLi.out _ Ac cc x (by omega) hcl).mono ?_; rintro e Y8 ⟨⟨A2, c2, rfl, hA2⟩, hx⟩
        refine hK _ _ (.of hx) ?_; clear hK K
        replace hb := ext_trans hb hx
        replace hP := hP.ext hx
        replace hcl := hcl.ext hx
        replace hA1 := hA1.ext hx
        replace hT1 := hT1.ext hx
        clear hx
        refine Dr.plan_e rfl (by rfl) (fun K hK => ?_)
        go_wp2_with fail
        refine (CPx.out _ A1 d1 T1 e1 A2 c2 hA1 hT1 hA2).mono ?_; rintro e Y9 ⟨rfl, hx⟩
        refine hK _ _ (.of hx) ?_; clear hK K
        replace hb := ext_trans hb hx
        replace hP := hP.ext hx
        clear hx CPx hA1 hT1 hA2
        with_reducible refine Dr.plan_q (l := [_, _, _, _, _]) (by with_unfolding_all exact rfl) (fun K hK => ?_)
        iterate 5 (go_big_quiet_step (fail))
        refine wpQuiet_nil (hK _ ?_); clear hK K
        refine Dr.plan_e rfl (by rfl) (fun K hK => ?_)
        go_wp2_with fail
        refine (CIc.out _ hb).mono ?_; rintro e Ya ⟨rfl, hx⟩
        refine hK _ _ (.of hx) ?_; clear hK K
        replace hb := ext_trans hb hx
        replace hP := hP.ext hx
        clear hx CIc
        cases cb
        · with_reducible refine Dr.plan_q (l := [_, _, _, _, _, _, _, _]) (by with_unfolding_all exact rfl) (fun K hK => ?_)
          iterate 8 (go_big_quiet_step (fail))
          refine wpQuiet_nil (hK _ ?_); clear hK K
          refine Dr.plan_end rfl ?_
          go_wp2
          go_meet
          case rel => exact ⟨rfl, hb, hP⟩

        have hmo := Hmost.out rfl
        have hmo' : ¬ (x.length : Int) < (cl.length : Int) := by omega
        have hmo2 : ¬ x.length < cl.length := by omega
        with_reducible refine Dr.plan_q (l := [_, _, _, _, _, _, _, _]) (by with_unfolding_all exact rfl) (fun K hK => ?_)
        iterate 8 (go_big_quiet_step (fail))
        refine wpQuiet_nil (hK _ ?_); clear hK K
        refine Dr.plan_end rfl ?_
        go_wp2
        go_meet
        case rel => exact ⟨rfl, hb, hP⟩
    · obtain rfl := Hpb.out rfl
      clear Hpb
      by_cases hlx : l.length < x.length
      · have hlx' : (l.length : Int) < (x.length : Int) := by omega
        have hlx2 : decide (l.length < x.length) = true := decide_eq_true hlx
        have q0 := Dr.cell0 (hP.cell (i := 0) rfl)
        have q1 := Dr.cell0 (hP.cell (i := 1) rfl)
        have q2 := Dr.cell0 (hP.cell (i := 2) rfl)
        have q3 := Dr.cell0 (hP.cell (i := 3) rfl)
        have q4 := Dr.cell0 (hP.cell (i := 4) rfl)
        have q5 := Dr.cell0 (hP.cell (i := 5) rfl)
        have q6 := Dr.cell0 (hP.cell (i := 6) rfl)
        with_reducible refine Dr.plan_q (l := [_, _, _, _, _, _, _, _, _, _, _, _, _, _, _]) (by with_unfolding_all exact rfl) (fun K hK => ?_)
        iterate 15 (go_big_quiet_step (fail))
        refine wpQuiet_nil (hK _ ?_); clear hK K
        clear q0 q1 q2 q3 q4 q5 q6
        refine Dr.plan_e rfl (by rfl) (fun K hK => ?_)
        go_wp2_with fail
        refine (CL.out _ hb).mono ?_; rintro e Y6 ⟨⟨A1, d1, rfl, hA1⟩, hx⟩
        refine hK _ _ (.of hx) ?_; clear hK K
        replace hb := ext_trans hb hx
        replace hP := hP.ext hx
        replace hcl := hcl.ext hx
        clear hx
        refine Dr.plan_e rfl (by rfl) (fun K hK => ?_)
        go_wp2_with fail
        refine (CTh.out _ hb).mono ?_; rintro e Y7 ⟨⟨T1, e1, rfl, hT1⟩, hx⟩
        refine hK _ _ (.of hx) ?_; clear hK K
        replace hb := ext_trans hb hx
        replace hP := hP.ext hx
        replace hcl := hcl.ext hx
        replace hA1 := hA1.ext hx
        clear hx
        refine Dr.plan_e rfl (by rfl) (fun K hK => ?_)
        go_wp2_with fail
        refine (CLi.out _ Ac cc x (by omega) hcl).mono ?_; rintro e Y8 ⟨⟨A2, c2, rfl, hA2⟩, hx⟩
        refine hK _ _ (.of hx) ?_; clear hK K
        replace hb := ext_trans hb hx
        replace hP := hP.ext hx
        replace hcl := hcl.ext hx
        replace hA1 := hA1.ext hx
        replace hT1 := hT1.ext hx
        clear hx
        refine Dr.plan_e rfl (by rfl) (fun K hK => ?_)
        go_wp2_with fail
        refine (CPx.out _ A1 d1 T1 e1 A2 c2 hA1 hT1 hA2).mono ?_; rintro e Y9 ⟨rfl, hx⟩
        refine hK _ _ (.of hx) ?_; clear hK K
        replace hb := ext_trans hb hx
        replace hP := hP.ext hx
        clear hx CPx hA1 hT1 hA2
        with_reducible refine Dr.plan_q (l := [_, _, _, _, _]) (by with_unfolding_all exact rfl) (fun K hK => ?_)
        iterate 5 (go_big_quiet_step (fail))
        refine wpQuiet_nil (hK _ ?_); clear hK K
        refine Dr.plan_e rfl (by rfl) (fun K hK => ?_)
        go_wp2_with fail
        refine (CIc.out _ hb).mono ?_; rintro e Ya ⟨rfl, hx⟩
        refine hK _ _ (.of hx) ?_; clear hK K
        replace hb := ext_trans hb hx
        replace hP := hP.ext hx
        clear hx CIc
        cases cb
        · with_reducible refine Dr.plan_q (l := [_, _, _, _, _, _, _, _]) (by with_unfolding_all exact rfl) (fun K hK => ?_)
          iterate 8 (go_big_quiet_step (fail))
          refine wpQuiet_nil (hK _ ?_); clear hK K
          refine Dr.plan_end rfl ?_
          go_wp2
          go_meet
          case rel => exact ⟨rfl, hb, hP⟩

        have hmo := Hmost.out rfl
        have hmo' : ¬ (x.length : Int) < (cl.length : Int) := by omega
        have hmo2 : ¬ x.length < cl.length := by omega
        with_reducible refine Dr.plan_q (l := [_, _, _, _, _, _, _, _]) (by with_unfolding_all exact rfl) (fun K hK => ?_)
        iterate 8 (go_big_quiet_step (fail))
        refine wpQuiet_nil (hK _ ?_); clear hK K
        refine Dr.plan_end rfl ?_
        go_wp2
        go_meet
        case rel => exact ⟨rfl, hb, hP⟩
      · have hlx' : ¬ (l.length : Int) < (x.length : Int) := by omega
        have hlx2 : decide (l.length < x.length) = false := decide_eq_false hlx
        have q0 := Dr.cell0 (hP.cell (i := 0) rfl)
        have q1 := Dr.cell0 (hP.cell (i := 1) rfl)
        have q2 := Dr.cell0 (hP.cell (i := 2) rfl)
        have q3 := Dr.cell0 (hP.cell (i := 3) rfl)
        have q4 := Dr.cell0 (hP.cell (i := 4) rfl)
        have q5 := Dr.cell0 (hP.cell (i := 5) rfl)
        have q6 := Dr.cell0 (hP.cell (i := 6) rfl)
        with_reducible refine Dr.plan_q (l := [_, _, _, _, _, _, _, _, _, _, _, _, _, _, _]) (by with_unfolding_all exact rfl) (fun K hK => ?_)
        iterate 15 (go_big_quiet_step (fail))
        refine wpQuiet_nil (hK _ ?_); clear hK K
        clear q0 q1 q2 q3 q4 q5 q6
        refine Dr.plan_e rfl (by rfl) (fun K hK => ?_)
        go_wp2_with fail
        refine (CL.out _ hb).mono ?_; rintro e Y6 ⟨⟨A1, d1, rfl, hA1⟩, hx⟩
        refine hK _ _ (.of hx) ?_; clear hK K
        replace hb := ext_trans hb hx
        replace hP := hP.ext hx
        replace hcl := hcl.ext hx
        clear hx
        refine Dr.plan_e rfl (by rfl) (fun K hK => ?_)
        go_wp2_with fail
        refine (CTh.out _ hb).mono ?_; rintro e Y7 ⟨⟨T1, e1, rfl, hT1⟩, hx⟩
        refine hK _ _ (.of hx) ?_; clear hK K
        replace hb := ext_trans hb hx
        replace hP := hP.ext hx
        replace hcl := hcl.ext hx
        replace hA1 := hA1.ext hx
        clear hx
        refine Dr.plan_e rfl (by rfl) (fun K hK => ?_)
        go_wp2_with fail
        refine (CLi.out _ Ac cc x (by omega) hcl).mono ?_; rintro e Y8 ⟨⟨A2, c2, rfl, hA2⟩, hx⟩
        refine hK _ _ (.of hx) ?_; clear hK K
        replace hb := ext_trans hb hx
        replace hP := hP.ext hx
        replace hcl := hcl.ext hx
        replace hA1 := hA1.ext hx
        replace hT1 := hT1.ext hx
        clear hx
        refine Dr.plan_e rfl (by rfl) (fun K hK => ?_)
        go_wp2_with fail
        refine (CPx.out _ A1 d1 T1 e1 A2 c2 hA1 hT1 hA2).mono ?_; rintro e Y9 ⟨rfl, hx⟩
        refine hK _ _ (.of hx) ?_; clear hK K
        replace hb := ext_trans hb hx
        replace hP := hP.ext hx
        clear hx CPx hA1 hT1 hA2
        with_reducible refine Dr.plan_q (l := [_, _, _, _, _]) (by with_unfolding_all exact rfl) (fun K hK => ?_)
        iterate 5 (go_big_quiet_step (fail))
        refine wpQuiet_nil (hK _ ?_); clear hK K
        refine Dr.plan_e rfl (by rfl) (fun K hK => ?_)
        go_wp2_with fail
        refine (CIc.out _ hb).mono ?_; rintro e Ya ⟨rfl, hx⟩
        refine hK _ _ (.of hx) ?_; clear hK K
        replace hb := ext_trans hb hx
        replace hP := hP.ext hx
        clear hx CIc
        cases cb
        · with_reducible refine Dr.plan_q (l := [_, _, _, _, _, _, _, _]) (by with_unfolding_all exact rfl) (fun K hK => ?_)
          iterate 8 (go_big_quiet_step (fail))
          refine wpQuiet_nil (hK _ ?_); clear hK K
          refine Dr.plan_end rfl ?_
          go_wp2
          go_meet
          case rel => exact ⟨rfl, hb, hP⟩

        have hmo := Hmost.out rfl
        have hmo' : ¬ (x.length : Int) < (cl.length : Int) := by omega
        have hmo2 : ¬ x.length < cl.length := by omega
        with_reducible refine Dr.plan_q (l := [_, _, _, _, _, _, _, _]) (by with_unfolding_all exact rfl) (fun K hK => ?_)
        iterate 8 (go_big_quiet_step (fail))
        refine wpQuiet_nil (hK _ ?_); clear hK K
        refine Dr.plan_end rfl ?_
        go_wp2
        go_meet
        case rel => exact ⟨rfl, hb, hP⟩
  case rest =>
    obtain ⟨rfl, hb2, hP2⟩ := hcut
    clear hb hP hcl CIx CPx CIc CPc Hpb Hmost CLi CL CTh
    have hb := hb2
    have hP := hP2
    clear hb2 hP2
    have q0 : wc.cell? ⟨w.heap.size, 0, none⟩ = _ := hP.cell rfl
    have hPl := hP.lt
    by_cases hlx : l.length < x.length
    · have hlx' : (l.length : Int) < (x.length : Int) := by omega
      obtain rfl := Hnx.out hlx
      go_wp2_with fail
      refine (awake_any _).mono ?_; rintro e Wz ⟨rfl, hx⟩
      replace hb := ext_trans hb hx
      go_wp2
      go_ret
      exact ⟨rfl, hb⟩
    have hlx' : ¬ (l.length : Int) < (x.length : Int) := by omega
    have Hsm := Lib.hid (Hsome.out (by omega))
    clear hlx Hsome Hnx
    go_wp2
    clear q0
    have htw := Ht.out.ext hb
    go_loop [11, 12] (fun s t => ∃ z : Nat, t = .int .i64 z ∧ z ≤ ts.length ∧ s = .int .i64 (isum ((ts.take z).map Th.long))) (fun _ t => ts.length - (intOf t).toNat)
    case atStart => exact ⟨0, rfl, by omega, rfl⟩
    case round =>
      obtain ⟨z, rfl, hz, rfl⟩ := hrel
      have hbd := isum_map_bd Th.long (ts.take z) 2000 (fun t ht => by have := Hokl.out t (List.mem_of_mem_take ht); omega)
      rw [List.length_take] at hbd
      by_cases hzt : z < ts.length
      · have hzt' : (z : Int) < (ts.length : Int) := by omega
        obtain ⟨b4, off4, rfl, -, d0, -, -, -⟩ := htw.at4 hzt rfl
        have hlo := Hokl.out _ (List.getElem_mem hzt)
        have Hs := Lib.hid (show isum ((ts.take (z + 1)).map Th.long) = isum ((ts.take z).map Th.long) + ts[z].long by
          rw [List.take_succ_eq_append_getElem hzt, List.map_append, isum_append]; simp [isum])
        generalize isum ((ts.take z).map Th.long) = S0 at *
        generalize ts[z].long = lo at *
        go_wp2
        go_round
        case rel => exact ⟨z + 1, by go_num, by omega, by rw [Hs.out]⟩
        case measure => simp [intOf]; omega
      · have htk : ts.take z = ts := List.take_of_length_le (by omega)
        rw [htk] at hbd
        rw [htk]
        clear htk
        generalize isum (ts.map Th.long) = S0 at *
        have hlw := Hd.out.ext hb
        go_wp2
        go_loop [13] (fun t => ∃ y : Nat, t = .int .i64 y ∧ y ≤ l.length ∧ Hid (∀ i, (hi : i < l.length) → i < y → S0 ≤ l[i])) (fun t => l.length - (intOf t).toNat)
        case atStart => exact ⟨0, rfl, by omega, Lib.hid (by omega)⟩
        case round =>
          obtain ⟨y, rfl, hy, Hy⟩ := hrel
          have q0 : wc.cell? ⟨w.heap.size, 0, none⟩ = _ := hP.cell rfl
          by_cases hyl : y < l.length
          · have hyl' : (y : Int) < (l.length : Int) := by omega
            obtain ⟨b5, off5, rfl, -, e0⟩ := hlw.at1 hyl rfl
            have Hy2 := Lib.hid (show S0 ≤ l[y] → ∀ i, (hi : i < l.length) → i < y + 1 → S0 ≤ l[i] from fun h5 i hi hiy => by
              by_cases e : i = y
              · subst e; exact h5
              · exact Hy.out i hi (by omega))
            generalize l[y] = ly at *
            by_cases hsl : S0 ≤ ly
            · have hsl' : ¬ ly < S0 := by omega
              have Hy3 := Lib.hid (Hy2.out hsl)
              go_wp2
              go_round
              case rel => exact ⟨y + 1, by go_num, by omega, Hy3⟩
              case measure => simp [intOf]; omega
            · have hsl' : ly < S0 := by omega
              go_wp2_with fail
              refine (awake_any _).mono ?_; rintro e Wz ⟨rfl, hx⟩
              replace hb := ext_trans hb hx
              go_wp2
              go_ret
              exact ⟨rfl, hb⟩
          · have Hsn := Lib.hid (Hsm.out (fun zz hzz => by
              obtain ⟨i, hi, rfl⟩ := List.mem_iff_getElem.1 hzz
              exact Hy.out i hi (by omega)))
            clear Hsm
            go_wp2_with fail
            refine (NumC ts.length _ (by omega)).mono ?_; rintro e X1 ⟨⟨A1, c1, rfl, hA1⟩, hx⟩
            replace hb := ext_trans hb hx
            replace hP := hP.ext hx
            clear hx q0
            go_upto_region 20 with fail
            refine Dr.wp_region_plan 14 [] (.q [0, 1, 3, 4] (.e1 2 (.q [5, 6, 7, 8, 10, 11] (.e1 9 (.q [12, 13] .done))))) (by kernel_rfl) (by kernel_rfl) ?_
            replace hb := hb.drew
            replace hP := hP.drew
            replace hA1 : Cells (World.drew X1) A1 1 Go.Bs.encI (upto ts.length) := hA1
            generalize World.drew X1 = X2 at *
            have p2 := Dr.cell0 (hP.cell (i := 2) rfl)
            with_reducible refine Dr.plan_q (l := [_, _, _, _]) (by with_unfolding_all exact rfl) (fun K hK => ?_)
            iterate 4 (go_big_quiet_step (fail))
            refine wpQuiet_nil (hK _ ?_); clear hK K
            clear p2
            generalize massL ts (upto ts.length) = MA at *
            generalize highL ts (upto ts.length) = HI at *
            refine Dr.plan_e rfl (by rfl) (fun K hK => ?_)
            go_wp2_with fail
            refine (CM.out _ hb A1 c1 hA1).mono ?_; rintro e X3 ⟨rfl, rfl⟩
            refine hK _ _ (.refl _ _) ?_; clear hK K
            clear CM
            have p1 := Dr.cell0 (hP.cell (i := 1) rfl)
            by_cases hma : MA ≤ ca
            · have hma' : ¬ ca < MA := by omega
              with_reducible refine Dr.plan_q (l := [_, _, _, _, _, _]) (by with_unfolding_all exact rfl) (fun K hK => ?_)
              iterate 6 (go_big_quiet_step (fail))
              refine wpQuiet_nil (hK _ ?_); clear hK K
              refine Dr.plan_e rfl (by rfl) (fun K hK => ?_)
              go_wp2_with fail
              refine (CH.out _ hb A1 c1 hA1).mono ?_; rintro e X4 ⟨rfl, rfl⟩
              refine hK _ _ (.refl _ _) ?_; clear hK K
              clear CH p1
              with_reducible refine Dr.plan_q (l := [_, _]) (by with_unfolding_all exact rfl) (fun K hK => ?_)
              iterate 2 (go_big_quiet_step (fail))
              refine wpQuiet_nil (hK _ ?_); clear hK K
              refine Dr.plan_end rfl ?_
              by_cases hhi : HI ≤ h
              · have hhi' : ¬ h < HI := by omega
                obtain rfl := Hsn.out (by rw [decide_eq_true hma, decide_eq_true hhi]; rfl)
                go_wp2_with fail
                refine (awake_any _).mono ?_; rintro e Wz ⟨rfl, hx⟩
                replace hb := ext_trans hb hx
                go_wp2
                go_ret
                exact ⟨rfl, hb⟩
              · have hhi' : h < HI := by omega
                obtain rfl := Hcar.out (by rw [decide_eq_false hhi, Bool.and_false])
                go_wp2_with fail
                refine (awake_any _).mono ?_; rintro e Wz ⟨rfl, hx⟩
                replace hb := ext_trans hb hx
                go_wp2
                go_ret
                exact ⟨rfl, hb⟩
            · have hma' : ca < MA := by omega
              with_reducible refine Dr.plan_q (l := [_, _, _, _, _, _]) (by with_unfolding_all exact rfl) (fun K hK => ?_)
              iterate 6 (go_big_quiet_step (fail))
              refine wpQuiet_nil (hK _ ?_); clear hK K
              refine Dr.plan_e_skip rfl (by rfl) ?_; go_frame
              clear p1
              with_reducible refine Dr.plan_q (l := [_, _]) (by with_unfolding_all exact rfl) (fun K hK => ?_)
              iterate 2 (go_big_quiet_step (fail))
              refine wpQuiet_nil (hK _ ?_); clear hK K
              refine Dr.plan_end rfl ?_
              obtain rfl := Hcar.out (by rw [decide_eq_false hma, Bool.false_and])
              go_wp2_with fail
              refine (awake_any _).mono ?_; rintro e Wz ⟨rfl, hx⟩
              replace hb := ext_trans hb hx
              go_wp2
              go_ret
              exact ⟨rfl, hb⟩
end Go.Proofs.Ytbpmfaibcibleaa

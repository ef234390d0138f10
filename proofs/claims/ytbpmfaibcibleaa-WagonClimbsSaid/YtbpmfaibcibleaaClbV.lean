/- The law WagonClimbs: its walk. (Printed by mk_clbv.py.) -/
import Derived.Test.YtbpmfaibcibleaaLawA
import Derived.Test.YtbpmfaibcibleaaClbU
import Derived.Test.YtbpmfaibcibleaaClbT
namespace Go.Proofs.Ytbpmfaibcibleaa
open Go.RowKit Go.Bs Go.Wg Go.Pl Go.Sort
theorem climbL_ref (ts : List Th) : clmL ts [] 0 (-1) = climbL ts := rfl
set_option maxRecDepth 100000 in
set_option maxHeartbeats 4000000 in
theorem climbs_law (A : Option Addr) (n c : Nat) (h ca em re ax dk : Int) (l : List Int) (T : Option Addr) (m cT : Nat) (ts : List Th) (B : Option Addr) (k cB : Nat) (cl : List Int) (own : Bool) (w : World) (hn : l.length = n) (hd : Cells w A 1 Go.Bs.encI l) (hm : ts.length = m) (ht : Cells w T 4 Th.enc ts) (hk : cl.length = k) (hB : Cells w B 1 Go.Bs.encI cl) :
    Calls Try.prog 9 #[.agg #[.slice A n c, .int .i64 h, .int .i64 ca, .int .i64 em, .int .i64 re, .int .i64 ax, .int .i64 dk], .slice T m cT, .slice B k cB, .bool own] w fun e w' => e = .returned (.bool true) ∧ Below w.heap.size w w' := by
  subst hn hm hk
  have CT := Lib.hid (fun V => Thin_any A l.length c h ca em re ax dk V)
  by_cases hg : l.length ≤ 10 ∧ ts.length ≤ 17 ∧ cl.length ≤ 20
  case neg =>
    generalize hb1 : decide (l.length ≤ 10) = b1 at *
    have hg2 : b1 = false ∨ (b1 = true ∧ ¬ ts.length ≤ 17) ∨ (b1 = true ∧ ts.length ≤ 17 ∧ ¬ cl.length ≤ 20) := by
      cases b1
      · exact .inl rfl
      · have := of_decide_eq_true hb1
        by_cases h17 : ts.length ≤ 17
        · exact .inr (.inr ⟨rfl, h17, fun h => hg ⟨this, h17, h⟩⟩)
        · exact .inr (.inl ⟨rfl, h17⟩)
    clear hg hb1
    have hb := ext_alloc w (.cells #[.slice A l.length c, .int .i64 h, .int .i64 ca, .int .i64 em, .int .i64 re, .int .i64 ax, .int .i64 dk] 37)
    have hP := Blk.new w 37 [.slice A l.length c, .int .i64 h, .int .i64 ca, .int .i64 em, .int .i64 re, .int .i64 ax, .int .i64 dk]
    go_enter Try.func9, Try.ntmps9
    go_upto_region 1 with fail
    change Blk (w.alloc (.cells #[.slice A l.length c, .int .i64 h, .int .i64 ca, .int .i64 em, .int .i64 re, .int .i64 ax, .int .i64 dk] 37)) _ _ _ at hP
    change Below w.heap.size w (w.alloc (.cells #[.slice A l.length c, .int .i64 h, .int .i64 ca, .int .i64 em, .int .i64 re, .int .i64 ax, .int .i64 dk] 37)) at hb
    generalize w.alloc (.cells #[.slice A l.length c, .int .i64 h, .int .i64 ca, .int .i64 em, .int .i64 re, .int .i64 ax, .int .i64 dk] 37) = W0 at *
    have q0 : W0.cell? ⟨w.heap.size, 0, none⟩ = _ := hP.cell rfl
    have q1 : W0.cell? ⟨w.heap.size, 1, none⟩ = _ := hP.cell rfl
    have q2 : W0.cell? ⟨w.heap.size, 2, none⟩ = _ := hP.cell rfl
    have q3 : W0.cell? ⟨w.heap.size, 3, none⟩ = _ := hP.cell rfl
    have q4 : W0.cell? ⟨w.heap.size, 4, none⟩ = _ := hP.cell rfl
    have q5 : W0.cell? ⟨w.heap.size, 5, none⟩ = _ := hP.cell rfl
    have q6 : W0.cell? ⟨w.heap.size, 6, none⟩ = _ := hP.cell rfl
    go_wp2_with fail
    refine (CT.out _).mono ?_; rintro e W1 ⟨rfl, hx⟩
    replace hb := ext_trans hb hx
    clear hx
    clear q0 q1 q2 q3 q4 q5 q6
    rcases hg2 with rfl | ⟨rfl, h17⟩ | ⟨rfl, h17, h20⟩
    · clear CT
      go_wp2_with fail
      refine (awake_any _).mono ?_; rintro e Wz ⟨rfl, hx⟩
      replace hb := ext_trans hb hx
      go_wp2
      go_ret
      exact ⟨rfl, hb⟩
    · have h17' : (17 : Int) < (ts.length : Int) := by omega
      have h17'' : 17 < ts.length := by omega
      go_wp2_with fail
      refine (awake_any _).mono ?_; rintro e Wz ⟨rfl, hx⟩
      replace hb := ext_trans hb hx
      go_wp2
      go_ret
      exact ⟨rfl, hb⟩
    · have h17' : ¬ (17 : Int) < (ts.length : Int) := by omega
      have h17'' : ¬ 17 < ts.length := by omega
      have h20' : (20 : Int) < (cl.length : Int) := by omega
      have h20'' : 20 < cl.length := by omega
      go_wp2_with fail
      refine (awake_any _).mono ?_; rintro e Wz ⟨rfl, hx⟩
      replace hb := ext_trans hb hx
      go_wp2
      go_ret
      exact ⟨rfl, hb⟩
  case pos =>
  obtain ⟨h10, h17, h20⟩ := hg
  rw [show decide (l.length ≤ 10) = true from decide_eq_true h10] at CT
  have h17' : ¬ (17 : Int) < (ts.length : Int) := by omega
  have h20' : ¬ (20 : Int) < (cl.length : Int) := by omega
  have CL := Lib.hid (fun V (hV : Below w.heap.size w V) => lorryC A c h ca em re ax dk l V (by omega) (hd.ext hV))
  have CTh := Lib.hid (fun V (hV : Below w.heap.size w V) => thingsC T cT ts V (by omega) (ht.ext hV))
  have CRt := Lib.hid (fun V (hV : Below w.heap.size w V) => rthings_any T ts.length cT ts V rfl (by omega) (ht.ext hV))
  have CLi := Lib.hid (fun V (A' : Option Addr) (c' : Nat) (l' : List Int) (h5 : l'.length ≤ 1000) (hc : Cells V A' 1 Go.Bs.encI l') => listC A' c' l' V (by omega) hc)
  have CRl := Lib.hid (fun V (hV : Below w.heap.size w V) => rlorry_any A l.length c h ca em re ax dk l V rfl (by omega) (hd.ext hV))
  have CI := Lib.hid (fun V (hV : Below w.heap.size w V) (A' : Option Addr) (c' : Nat) (l' : List Int) (h5 : l'.length ≤ 1000) (hc : Cells V A' 1 Go.Bs.encI l') => IsClimb_any T ts.length cT ts A' l'.length c' l' V rfl (by omega) (ht.ext hV) rfl (by omega) hc)
  have CP := Lib.hid (fun V (A1 : Option Addr) (d1 : Nat) (T1 : Option Addr) (e1 : Nat) (A' : Option Addr) (c' : Nat) (l' : List Int) (h5 : l'.length ≤ 1000) (h6 : Cells V A1 1 Go.Bs.encI l) (h7 : Cells V T1 4 Th.enc ts) (hc : Cells V A' 1 Go.Bs.encI l') => ProveClimb_any ⟨⟨⟨l, h, ca, em, re, ax, dk⟩, A1, d1⟩, T1, e1⟩ ts A' l'.length c' l' V (by simp only; omega) (by omega) h6 h7 rfl (by omega) hc)
  unfold LoV.val at CP
  simp only at CP
  have hce : proveB ⟨l, h, ca, em, re, ax, dk⟩ ts = fun l' => decide (checkE ⟨l, h, ca, em, re, ax, dk⟩ ts = 0) && decide (l.length < l'.length) && climbB ts l' := rfl
  have CC := Lib.hid (fun V (T1 : Option Addr) (e1 : Nat) (h7 : Cells V T1 4 Th.enc ts) => Climb_any ts T1 ts.length e1 V rfl (by omega) h7)
  have hcc := cargoE_cases ts 14
  have HB := Lib.hid hB
  have hb := ext_alloc w (.cells #[.slice A l.length c, .int .i64 h, .int .i64 ca, .int .i64 em, .int .i64 re, .int .i64 ax, .int .i64 dk] 37)
  have hP := Blk.new w 37 [.slice A l.length c, .int .i64 h, .int .i64 ca, .int .i64 em, .int .i64 re, .int .i64 ax, .int .i64 dk]
  go_enter Try.func9, Try.ntmps9
  go_upto_region 1 with fail
  change Blk (w.alloc (.cells #[.slice A l.length c, .int .i64 h, .int .i64 ca, .int .i64 em, .int .i64 re, .int .i64 ax, .int .i64 dk] 37)) _ _ _ at hP
  change Below w.heap.size w (w.alloc (.cells #[.slice A l.length c, .int .i64 h, .int .i64 ca, .int .i64 em, .int .i64 re, .int .i64 ax, .int .i64 dk] 37)) at hb
  generalize w.alloc (.cells #[.slice A l.length c, .int .i64 h, .int .i64 ca, .int .i64 em, .int .i64 re, .int .i64 ax, .int .i64 dk] 37) = W0 at *
  have q0 : W0.cell? ⟨w.heap.size, 0, none⟩ = _ := hP.cell rfl
  have q1 : W0.cell? ⟨w.heap.size, 1, none⟩ = _ := hP.cell rfl
  have q2 : W0.cell? ⟨w.heap.size, 2, none⟩ = _ := hP.cell rfl
  have q3 : W0.cell? ⟨w.heap.size, 3, none⟩ = _ := hP.cell rfl
  have q4 : W0.cell? ⟨w.heap.size, 4, none⟩ = _ := hP.cell rfl
  have q5 : W0.cell? ⟨w.heap.size, 5, none⟩ = _ := hP.cell rfl
  have q6 : W0.cell? ⟨w.heap.size, 6, none⟩ = _ := hP.cell rfl
  go_wp2_with fail
  refine (CT.out _).mono ?_; rintro e W1 ⟨rfl, hx⟩
  replace hP := hP.ext hx
  replace hb := ext_trans hb hx
  clear hx
  clear q0 q1 q2 q3 q4 q5 q6
  go_wp2_with fail
  refine (CTh.out _ hb).mono ?_; rintro e W2 ⟨⟨T1, e1, rfl, hT1⟩, hx⟩
  replace hb := ext_trans hb hx
  replace hP := hP.ext hx
  clear hx CT
  go_wp2_with fail
  refine (CC.out _ _ _ hT1).mono ?_; rintro e W3 ⟨hx, v1, rfl, hv1⟩
  replace hb := ext_trans hb hx
  replace hP := hP.ext hx
  clear hx CC hT1
  by_cases hc0 : cargoE ts 14 = 0
  case neg =>
    rw [if_neg hc0] at hv1
    obtain ⟨Ac, cc, rfl, -, -, -, -⟩ := hv1
    have hpf : ∀ l', proveB ⟨l, h, ca, em, re, ax, dk⟩ ts l' = false := fun l' => by
      rw [hce]
      have : checkE ⟨l, h, ca, em, re, ax, dk⟩ ts ≠ 0 := by
        unfold checkE; split
        · exact hc0
        · simp
      simp only [decide_eq_false this, Bool.false_and]
    have tail : ∀ (ce : Int) (W : World), (ce = 3 ∨ ce = 1) → True := fun _ _ _ => trivial
    clear tail
    simp only [hpf] at CP
    clear hce hpf
    have hwant : (14 < ts.length ∧ cargoE ts 14 = 3) ∨ (¬ 14 < ts.length ∧ ts.all Th.okB = false ∧ cargoE ts 14 = 1) := by
      unfold cargoE at *
      by_cases h5 : 14 < ts.length
      · rw [if_pos h5]; exact .inl ⟨h5, rfl⟩
      · rw [if_neg h5] at hc0 ⊢
        cases h6 : ts.all Th.okB
        · exact .inr ⟨h5, rfl, rfl⟩
        · rw [h6] at hc0; simp at hc0
    clear hc0 hcc
    rcases hwant with ⟨h14, hc3⟩ | ⟨h14, hall, hc1⟩
    · rw [hc3]
      clear hc3
      have h14' : (14 : Int) < (ts.length : Int) := by omega
      simp only [List.length_nil]
      have q0 := hP.cell (i := 0) rfl
      have q1 := hP.cell (i := 1) rfl
      have q2 := hP.cell (i := 2) rfl
      have q3 := hP.cell (i := 3) rfl
      have q4 := hP.cell (i := 4) rfl
      have q5 := hP.cell (i := 5) rfl
      have q6 := hP.cell (i := 6) rfl
      go_wp2_with fail
      refine (CL.out _ hb).mono ?_; rintro e W4 ⟨⟨A1, d1, rfl, hA1⟩, hx⟩
      clear q0 q1 q2 q3 q4 q5 q6
      replace hb := ext_trans hb hx
      clear hx CL
      go_wp2_with fail
      refine (CTh.out _ hb).mono ?_; rintro e W5 ⟨⟨T2, e2, rfl, hT2⟩, hx⟩
      replace hb := ext_trans hb hx
      replace hA1 := hA1.ext hx
      clear hx CTh
      go_wp2_with fail
      refine (CLi.out _ B cB cl (by omega) (HB.out.ext hb)).mono ?_; rintro e W6 ⟨⟨A3, d3, rfl, hA3⟩, hx⟩
      replace hb := ext_trans hb hx
      replace hA1 := hA1.ext hx
      replace hT2 := hT2.ext hx
      clear hx CLi
      go_wp2_with fail
      refine (CP.out _ A1 d1 T2 e2 A3 d3 cl (by omega) hA1 hT2 hA3).mono ?_; rintro e W7 ⟨rfl, hx⟩
      replace hb := ext_trans hb hx
      clear hx CP
      go_wp2_with fail
      refine (awake_any _).mono ?_; rintro e Wz ⟨rfl, hx⟩
      replace hb := ext_trans hb hx
      go_wp2
      go_ret
      exact ⟨rfl, hb⟩
    · rw [hc1]
      clear hc1
      rw [hall] at CRt
      clear hall
      have h14' : ¬ (14 : Int) < (ts.length : Int) := by omega
      simp only [List.length_nil]
      go_wp2_with fail
      refine (CRt.out _ hb).mono ?_; rintro e V3 ⟨rfl, rfl⟩
      have q0 := hP.cell (i := 0) rfl
      have q1 := hP.cell (i := 1) rfl
      have q2 := hP.cell (i := 2) rfl
      have q3 := hP.cell (i := 3) rfl
      have q4 := hP.cell (i := 4) rfl
      have q5 := hP.cell (i := 5) rfl
      have q6 := hP.cell (i := 6) rfl
      go_wp2_with fail
      refine (CL.out _ hb).mono ?_; rintro e W4 ⟨⟨A1, d1, rfl, hA1⟩, hx⟩
      clear q0 q1 q2 q3 q4 q5 q6
      replace hb := ext_trans hb hx
      clear hx CL
      go_wp2_with fail
      refine (CTh.out _ hb).mono ?_; rintro e W5 ⟨⟨T2, e2, rfl, hT2⟩, hx⟩
      replace hb := ext_trans hb hx
      replace hA1 := hA1.ext hx
      clear hx CTh
      go_wp2_with fail
      refine (CLi.out _ B cB cl (by omega) (HB.out.ext hb)).mono ?_; rintro e W6 ⟨⟨A3, d3, rfl, hA3⟩, hx⟩
      replace hb := ext_trans hb hx
      replace hA1 := hA1.ext hx
      replace hT2 := hT2.ext hx
      clear hx CLi
      go_wp2_with fail
      refine (CP.out _ A1 d1 T2 e2 A3 d3 cl (by omega) hA1 hT2 hA3).mono ?_; rintro e W7 ⟨rfl, hx⟩
      replace hb := ext_trans hb hx
      clear hx CP
      go_wp2_with fail
      refine (awake_any _).mono ?_; rintro e Wz ⟨rfl, hx⟩
      replace hb := ext_trans hb hx
      go_wp2
      go_ret
      exact ⟨rfl, hb⟩
  case pos =>
  rw [if_pos hc0] at hv1
  rw [hc0]
  obtain ⟨h14, hok⟩ := cargoE_zero.1 hc0
  have hall : ts.all Th.okB = true := List.all_eq_true.2 fun t ht => Th.ok_iff.2 (hok t ht)
  rw [hall] at CRt
  have h14' : ¬ (14 : Int) < (ts.length : Int) := by omega
  obtain ⟨Ac, cc, rfl, -, -, hcl, -⟩ := hv1
  have hxl : (climbL ts).length ≤ 100 := by
    have := clm_len' ts (lng ts) 0 (-1)
    show (clm ts (lng ts) 0 (-1)).length ≤ 100
    omega
  have CR := Lib.hid (fun V (hV : Below w.heap.size w V) => ClimbR_any ts T ts.length cT rfl h14 hok ts.length 0 (-1) none 0 0 [] V (by omega) (.inl ⟨rfl, rfl, rfl⟩) (by simp [climbB, Climbs, InR]) (ht.ext hV) rfl Cells.nil)
  rw [climbL_ref] at CR
  have hpv : ∀ l', proveB ⟨l, h, ca, em, re, ax, dk⟩ ts l' = (Lo.okB ⟨l, h, ca, em, re, ax, dk⟩ && climbB ts l' && decide (l.length < l'.length)) := fun l' => by
    rw [hce]
    unfold checkE
    cases Lo.okB ⟨l, h, ca, em, re, ax, dk⟩
    · rfl
    · simp only [if_true, hc0]
      cases climbB ts l' <;> cases decide (l.length < l'.length) <;> rfl
  simp only [hpv] at CP
  clear hpv hce hc0 hcc hall
  generalize Lo.okB ⟨l, h, ca, em, re, ax, dk⟩ = okl at *
  generalize climbL ts = x at *
  go_wp2_with fail
  refine (CRt.out _ hb).mono ?_; rintro e V3 ⟨rfl, rfl⟩
  clear CRt
  go_upto_region 11 with fail
  go_wp2_with fail
  refine (CR.out _ hb).mono ?_; rintro e W4 ⟨⟨v4, rfl, A4, c4, rfl, hx4⟩, hx⟩
  replace hb := ext_trans hb hx
  replace hP := hP.ext hx
  replace hcl := hcl.ext hx
  clear hx CR
  have CE := Lib.hid (ints_any Ac A4 x.length x.length cc c4 x x W4 rfl rfl (by omega) (by omega) hcl hx4)
  rw [show decide (x = x) = true from decide_eq_true rfl] at CE
  go_wp2_with fail
  refine (CE.out).mono ?_; rintro e W5 ⟨rfl, hx⟩
  replace hb := ext_trans hb hx
  replace hP := hP.ext hx
  replace hx4 := hx4.ext hx
  clear hx CE hcl
  go_upto_if 72 with fail
  go_cut [2] (fun v W => (∃ Y, RowAt W v Y ∧ Y.length ≤ 1000) ∧ W = W5)
  case first =>
    cases own
    · go_wp2
      go_meet
      case rel => exact ⟨⟨cl, ⟨B, cB, rfl, HB.out.ext hb⟩, by omega⟩, rfl⟩
    · go_wp2
      go_meet
      case rel => exact ⟨⟨x, ⟨A4, c4, rfl, hx4⟩, by omega⟩, rfl⟩
  case rest =>
    obtain ⟨⟨Y, ⟨AY, cY, rfl, hY⟩, hYl⟩, rfl⟩ := hcut
    clear hx4 hxl HB
    go_upto_region 16 with fail
    refine Dr.wp_region_plan 27 [] (.q [0, 2, 4, 7] (.e1 1 (.e1 3 (.e1 5 (.e1 6 (.e1 8 (.q [9, 10, 11] (.e1 12 (.q [13, 14, 15, 16, 17, 18, 19, 20, 21, 22, 23] (.e1 24 (.q [25, 26] .done))))))))))) (by kernel_rfl) (by kernel_rfl) ?_
    replace hb := hb.drew
    replace hP := hP.drew
    replace hY : Cells (World.drew wc) AY 1 Go.Bs.encI Y := hY
    generalize World.drew wc = V0 at *
    have q0 := Dr.cell0 (hP.cell (i := 0) rfl)
    have q1 := Dr.cell0 (hP.cell (i := 1) rfl)
    have q2 := Dr.cell0 (hP.cell (i := 2) rfl)
    have q3 := Dr.cell0 (hP.cell (i := 3) rfl)
    have q4 := Dr.cell0 (hP.cell (i := 4) rfl)
    have q5 := Dr.cell0 (hP.cell (i := 5) rfl)
    have q6 := Dr.cell0 (hP.cell (i := 6) rfl)
    with_reducible refine Dr.plan_q (l := [_, _, _, _]) (by with_unfolding_all exact rfl) (fun K hK => ?_)
    iterate 4 (go_big_quiet_step (fail))
    refine wpQuiet_nil (hK _ ?_); clear hK K
    clear q0 q1 q2 q3 q4 q5 q6
    refine Dr.plan_e rfl (by rfl) (fun K hK => ?_)
    go_wp2_with fail
    refine (CL.out _ hb).mono ?_; rintro e V1 ⟨⟨A1, d1, rfl, hA1⟩, hx⟩
    refine hK _ _ (.of hx) ?_; clear hK K
    replace hb := ext_trans hb hx
    replace hP := hP.ext hx
    replace hY := hY.ext hx
    clear hx CL
    refine Dr.plan_e rfl (by rfl) (fun K hK => ?_)
    go_wp2_with fail
    refine (CTh.out _ hb).mono ?_; rintro e V2 ⟨⟨T2, e2, rfl, hT2⟩, hx⟩
    refine hK _ _ (.of hx) ?_; clear hK K
    replace hb := ext_trans hb hx
    replace hP := hP.ext hx
    replace hY := hY.ext hx
    replace hA1 := hA1.ext hx
    clear hx CTh
    refine Dr.plan_e rfl (by rfl) (fun K hK => ?_)
    go_wp2_with fail
    refine (CLi.out _ AY cY Y hYl hY).mono ?_; rintro e V3 ⟨⟨AZ, cZ, rfl, hZ⟩, hx⟩
    refine hK _ _ (.of hx) ?_; clear hK K
    replace hb := ext_trans hb hx
    replace hP := hP.ext hx
    replace hY := hY.ext hx
    replace hA1 := hA1.ext hx
    replace hT2 := hT2.ext hx
    clear hx CLi
    refine Dr.plan_e rfl (by rfl) (fun K hK => ?_)
    go_wp2_with fail
    refine (CP.out _ A1 d1 T2 e2 AZ cZ Y hYl hA1 hT2 hZ).mono ?_; rintro e V4 ⟨rfl, hx⟩
    refine hK _ _ (.of hx) ?_; clear hK K
    replace hb := ext_trans hb hx
    replace hP := hP.ext hx
    replace hY := hY.ext hx
    clear hx CP hA1 hT2 hZ
    have CI2 := Lib.hid (fun V (hV : Below V4.heap.size V4 V) => CI.out V (ext_trans hb hV) AY cY Y hYl (hY.ext hV))
    generalize climbB ts Y = cb at *
    refine Dr.plan_e rfl (by rfl) (fun K hK => ?_)
    go_wp2_with fail
    refine (CRl.out _ hb).mono ?_; rintro e V5 ⟨rfl, hx⟩
    refine hK _ _ (.of hx) ?_; clear hK K
    replace hb := ext_trans hb hx
    replace hP := hP.ext hx
    have CI3 := Lib.hid (CI2.out _ hx)
    clear hx CRl CI2 CI hY
    cases okl
    · simp only [Bool.false_and] at *
      with_reducible refine Dr.plan_q (l := [_, _, _]) (by with_unfolding_all exact rfl) (fun K hK => ?_)
      iterate 3 (go_big_quiet_step (fail))
      refine wpQuiet_nil (hK _ ?_); clear hK K
      refine Dr.plan_e_skip rfl (by rfl) ?_; go_frame
      with_reducible refine Dr.plan_q (l := [_, _, _, _, _, _, _, _, _, _, _]) (by with_unfolding_all exact rfl) (fun K hK => ?_)
      iterate 11 (go_big_quiet_step (fail))
      refine wpQuiet_nil (hK _ ?_); clear hK K
      refine Dr.plan_e rfl (by rfl) (fun K hK => ?_)
      go_wp2_with fail
      refine (awake_any _).mono ?_; rintro e V7 ⟨rfl, hx⟩
      refine hK _ _ (.of hx) ?_; clear hK K
      replace hb := ext_trans hb hx
      clear hx
      with_reducible refine Dr.plan_q (l := [_, _]) (by with_unfolding_all exact rfl) (fun K hK => ?_)
      iterate 2 (go_big_quiet_step (fail))
      refine wpQuiet_nil (hK _ ?_); clear hK K
      refine Dr.plan_end rfl ?_
      go_wp2
      go_ret
      exact ⟨rfl, hb⟩
    · simp only [Bool.true_and] at *
      with_reducible refine Dr.plan_q (l := [_, _, _]) (by with_unfolding_all exact rfl) (fun K hK => ?_)
      iterate 3 (go_big_quiet_step (fail))
      refine wpQuiet_nil (hK _ ?_); clear hK K
      refine Dr.plan_e rfl (by rfl) (fun K hK => ?_)
      go_wp2_with fail
      refine (CI3.out).mono ?_; rintro e V6 ⟨rfl, hx⟩
      refine hK _ _ (.of hx) ?_; clear hK K
      replace hb := ext_trans hb hx
      replace hP := hP.ext hx
      clear hx CI3
      have q0 := Dr.cell0 (hP.cell (i := 0) rfl)
      cases cb
      · simp only [Bool.false_and] at *
        with_reducible refine Dr.plan_q (l := [_, _, _, _, _, _, _, _, _, _, _]) (by with_unfolding_all exact rfl) (fun K hK => ?_)
        iterate 11 (go_big_quiet_step (fail))
        refine wpQuiet_nil (hK _ ?_); clear hK K
        refine Dr.plan_e rfl (by rfl) (fun K hK => ?_)
        go_wp2_with fail
        refine (awake_any _).mono ?_; rintro e V7 ⟨rfl, hx⟩
        refine hK _ _ (.of hx) ?_; clear hK K
        replace hb := ext_trans hb hx
        clear hx
        with_reducible refine Dr.plan_q (l := [_, _]) (by with_unfolding_all exact rfl) (fun K hK => ?_)
        iterate 2 (go_big_quiet_step (fail))
        refine wpQuiet_nil (hK _ ?_); clear hK K
        refine Dr.plan_end rfl ?_
        go_wp2
        go_ret
        exact ⟨rfl, hb⟩
      · simp only [Bool.true_and] at *
        by_cases hlt : l.length < Y.length
        · have hlt' : (l.length : Int) < (Y.length : Int) := by omega
          have hlt2 : decide (l.length < Y.length) = true := decide_eq_true hlt
          with_reducible refine Dr.plan_q (l := [_, _, _, _, _, _, _, _, _, _, _]) (by with_unfolding_all exact rfl) (fun K hK => ?_)
          iterate 11 (go_big_quiet_step (fail))
          refine wpQuiet_nil (hK _ ?_); clear hK K
          refine Dr.plan_e rfl (by rfl) (fun K hK => ?_)
          go_wp2_with fail
          refine (awake_any _).mono ?_; rintro e V7 ⟨rfl, hx⟩
          refine hK _ _ (.of hx) ?_; clear hK K
          replace hb := ext_trans hb hx
          clear hx
          with_reducible refine Dr.plan_q (l := [_, _]) (by with_unfolding_all exact rfl) (fun K hK => ?_)
          iterate 2 (go_big_quiet_step (fail))
          refine wpQuiet_nil (hK _ ?_); clear hK K
          refine Dr.plan_end rfl ?_
          go_wp2
          go_ret
          exact ⟨rfl, hb⟩
        · have hlt' : ¬ (l.length : Int) < (Y.length : Int) := by omega
          have hlt2 : decide (l.length < Y.length) = false := decide_eq_false hlt
          with_reducible refine Dr.plan_q (l := [_, _, _, _, _, _, _, _, _, _, _]) (by with_unfolding_all exact rfl) (fun K hK => ?_)
          iterate 11 (go_big_quiet_step (fail))
          refine wpQuiet_nil (hK _ ?_); clear hK K
          refine Dr.plan_e rfl (by rfl) (fun K hK => ?_)
          go_wp2_with fail
          refine (awake_any _).mono ?_; rintro e V7 ⟨rfl, hx⟩
          refine hK _ _ (.of hx) ?_; clear hK K
          replace hb := ext_trans hb hx
          clear hx
          with_reducible refine Dr.plan_q (l := [_, _]) (by with_unfolding_all exact rfl) (fun K hK => ?_)
          iterate 2 (go_big_quiet_step (fail))
          refine wpQuiet_nil (hK _ ?_); clear hK K
          refine Dr.plan_end rfl ?_
          go_wp2
          go_ret
          exact ⟨rfl, hb⟩
end Go.Proofs.Ytbpmfaibcibleaa

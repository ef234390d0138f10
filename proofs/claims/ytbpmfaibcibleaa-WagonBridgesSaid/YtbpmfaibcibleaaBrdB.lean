/- The law WagonBridges: walk and lift. -/
import Derived.Test.YtbpmfaibcibleaaLawB
import Derived.Test.YtbpmfaibcibleaaLhpN
import Derived.Test.YtbpmfaibcibleaaBrdP
import Derived.Test.YtbpmfaibcibleaaAppH
import Derived.Test.YtbpmfaibcibleaaWaT
import Derived.Test.YtbpmfaibcibleaaWaU
/- The law WagonBridges: its walk. (Printed by mk_brda.py.) -/
namespace Go.Proofs.Ytbpmfaibcibleaa
open Go.RowKit Go.Bs Go.Wg Go.Pl Go.Sort
theorem stopVal_len (j : Lo) (ts : List Th) (p : List (List Int)) (bs : List Br) : (stopVal j ts p bs).1.length ≤ bs.length := by
  unfold stopVal
  split
  · simp
  · split
    · simp
    · split
      · simp
      · exact stopsTo_len _ _ _ _ _
theorem stop_pair {j : Lo} {ts us : List Th} {t : Th} {P Q : List (List Int)} {bs : List Br} (h0 : checkE j ts = 0) (hr : rightB j ts P = true) (hroad : roadE bs = 0) (h13 : ts.length ≤ 13) (hus : ts ++ [t] = us) :
    stopVal j ts P bs = (stopsL j ts P bs, 0) ∧ ((stopVal j us Q bs).2 = 1 ∨ (stopVal j us Q bs).2 = 9 ∨ ((stopVal j us Q bs).2 = 0 ∧ ∀ x ∈ (stopVal j ts P bs).1, x ∈ (stopVal j us Q bs).1)) := by
  have h1 : stopVal j ts P bs = (stopsL j ts P bs, 0) := by
    unfold stopVal
    rw [if_neg (not_not_intro h0), if_neg (by rw [hr]; simp), if_neg (not_not_intro hroad)]
  refine ⟨h1, ?_⟩
  rw [h1]
  have hul : us.length ≤ 14 := by rw [← hus, List.length_append]; simp; omega
  by_cases h2 : checkE j us = 0
  · by_cases h3 : rightB j us Q = true
    · have h4 : stopVal j us Q bs = (stopsL j us Q bs, 0) := by
        unfold stopVal
        rw [if_neg (not_not_intro h2), if_neg (by rw [h3]; simp), if_neg (not_not_intro hroad)]
      rw [h4]
      refine .inr (.inr ⟨rfl, ?_⟩)
      subst hus
      exact stops_more h2 hr h3
    · have h3' : rightB j us Q = false := by simpa using h3
      refine .inr (.inl ?_)
      unfold stopVal
      rw [if_neg (not_not_intro h2), if_pos h3']
  · refine .inl ?_
    unfold stopVal
    rw [if_pos h2]
    show checkE j us = 1
    have hok := Lo.ok_iff.2 (checkE_zero.1 h0).1
    unfold checkE at h2 ⊢
    rw [if_pos hok] at h2 ⊢
    unfold cargoE at h2 ⊢
    rw [if_neg (by omega)] at h2 ⊢
    by_cases h5 : us.all Th.okB = true
    · rw [if_pos h5] at h2; exact absurd rfl h2
    · rw [if_neg h5]
set_option maxRecDepth 100000 in
set_option maxHeartbeats 8000000 in
theorem bridges_law (A : Option Addr) (n c : Nat) (h ca em re ax dk : Int) (l : List Int) (T : Option Addr) (m cT : Nat) (ts : List Th) (R : Option Addr) (k cR : Nat) (rs : List RwV) (B : Option Addr) (q cB : Nat) (bs : List Br) (ta tb tc td x y : Int) (w : World) (hn : l.length = n) (hn0 : n ≤ 9223372036854775807) (hd : Cells w A 1 Go.Bs.encI l) (hm : ts.length = m) (hm0 : m ≤ 9223372036854775807) (ht : Cells w T 4 Th.enc ts) (hk : rs.length = k) (hk0 : k ≤ 9223372036854775807) (hM : RwM w R rs) (hq : bs.length = q) (hq0 : q ≤ 9223372036854775807) (hB : Cells w B 2 Br.enc bs) (hx0 : 0 ≤ x ∧ x ≤ 255) (hy0 : 0 ≤ y ∧ y ≤ 255) :
    Calls Try.prog 13 #[.agg #[.slice A n c, .int .i64 h, .int .i64 ca, .int .i64 em, .int .i64 re, .int .i64 ax, .int .i64 dk], .slice T m cT, .slice R k cR, .slice B q cB, .agg #[.int .i64 ta, .int .i64 tb, .int .i64 tc, .int .i64 td], .int .u8 x, .int .u8 y] w fun e w' => e = .returned (.bool true) ∧ Below w.heap.size w w' := by
  subst hn hm hk hq
  have CV := Lib.hid (fun V (hV : Below w.heap.size w V) => validC A c h ca em re ax dk l T cT ts V hn0 hm0 (hd.ext hV) (ht.ext hV))
  have CCu := Lib.hid (fun V (hV : Below w.heap.size w V) => cut_any R rs.length cR rs V rfl (by omega) (hM.hdr.ext hV))
  have CRF := Lib.hid (fun V (hV : Below w.heap.size w V) => RoadFault_any B bs.length cB bs V rfl (by omega) (hB.ext hV))
  generalize hb1 : decide (checkE ⟨l, h, ca, em, re, ax, dk⟩ ts = 0) = b1 at *
  generalize hb2 : cutB rs.length (rows rs) = b2 at *
  have Hb1 := Lib.hid hb1
  have Hb2 := Lib.hid hb2
  have Hd := Lib.hid hd
  have Ht := Lib.hid ht
  have HMM := Lib.hid hM
  have HB := Lib.hid hB
  clear hb1 hb2 hd ht hM hB
  have hP := (Blk.new w 37 [.slice A l.length c, .int .i64 h, .int .i64 ca, .int .i64 em, .int .i64 re, .int .i64 ax, .int .i64 dk]).alloc (.cells #[.int .i64 ta, .int .i64 tb, .int .i64 tc, .int .i64 td] 62)
  have hT := Blk.new (w.alloc (.cells #[.slice A l.length c, .int .i64 h, .int .i64 ca, .int .i64 em, .int .i64 re, .int .i64 ax, .int .i64 dk] 37)) 62 [.int .i64 ta, .int .i64 tb, .int .i64 tc, .int .i64 td]
  have hb : Below w.heap.size w ((w.alloc (.cells #[.slice A l.length c, .int .i64 h, .int .i64 ca, .int .i64 em, .int .i64 re, .int .i64 ax, .int .i64 dk] 37)).alloc (.cells #[.int .i64 ta, .int .i64 tb, .int .i64 tc, .int .i64 td] 62)) := ((Below.refl _ _).alloc (Nat.le_refl _) _).alloc (by simp) _
  rw [World.size_alloc] at hT
  go_enter Try.func13, Try.ntmps13
  go_upto_region 1 with fail
  change Blk ((w.alloc (.cells #[.slice A l.length c, .int .i64 h, .int .i64 ca, .int .i64 em, .int .i64 re, .int .i64 ax, .int .i64 dk] 37)).alloc (.cells #[.int .i64 ta, .int .i64 tb, .int .i64 tc, .int .i64 td] 62)) _ _ _ at hP
  change Blk ((w.alloc (.cells #[.slice A l.length c, .int .i64 h, .int .i64 ca, .int .i64 em, .int .i64 re, .int .i64 ax, .int .i64 dk] 37)).alloc (.cells #[.int .i64 ta, .int .i64 tb, .int .i64 tc, .int .i64 td] 62)) _ _ _ at hT
  generalize (w.alloc (.cells #[.slice A l.length c, .int .i64 h, .int .i64 ca, .int .i64 em, .int .i64 re, .int .i64 ax, .int .i64 dk] 37)).alloc (.cells #[.int .i64 ta, .int .i64 tb, .int .i64 tc, .int .i64 td] 62) = W0 at *
  have q0 : W0.cell? ⟨w.heap.size, 0, none⟩ = _ := hP.cell rfl
  have q1 : W0.cell? ⟨w.heap.size, 1, none⟩ = _ := hP.cell rfl
  have q2 : W0.cell? ⟨w.heap.size, 2, none⟩ = _ := hP.cell rfl
  have q3 : W0.cell? ⟨w.heap.size, 3, none⟩ = _ := hP.cell rfl
  have q4 : W0.cell? ⟨w.heap.size, 4, none⟩ = _ := hP.cell rfl
  have q5 : W0.cell? ⟨w.heap.size, 5, none⟩ = _ := hP.cell rfl
  have q6 : W0.cell? ⟨w.heap.size, 6, none⟩ = _ := hP.cell rfl
  go_wp2_with fail
  refine (CV.out _ hb).mono ?_; rintro e W1 ⟨rfl, hx⟩
  replace hb := ext_trans hb hx
  replace hP := hP.ext hx
  replace hT := hT.ext hx
  clear hx CV
  clear q0 q1 q2 q3 q4 q5 q6
  cases b1
  · go_wp2_with fail
    refine (awake_any _).mono ?_; rintro e Wz ⟨rfl, hx⟩
    replace hb := ext_trans hb hx
    go_wp2
    go_ret
    exact ⟨rfl, hb⟩
  have h0 := of_decide_eq_true Hb1.out
  by_cases h13 : 13 < ts.length
  · have h13' : (13 : Int) < (ts.length : Int) := by omega
    go_wp2_with fail
    refine (awake_any _).mono ?_; rintro e Wz ⟨rfl, hx⟩
    replace hb := ext_trans hb hx
    go_wp2
    go_ret
    exact ⟨rfl, hb⟩
  have h13' : ¬ (13 : Int) < (ts.length : Int) := by omega
  go_wp2_with fail
  refine (CCu.out _ hb).mono ?_; rintro e W2 ⟨rfl, rfl⟩
  clear CCu
  cases b2
  · go_wp2_with fail
    refine (awake_any _).mono ?_; rintro e Wz ⟨rfl, hx⟩
    replace hb := ext_trans hb hx
    go_wp2
    go_ret
    exact ⟨rfl, hb⟩
  by_cases hroad : roadE bs = 0
  case neg =>
    have hr1 := bne_iff_ne.2 hroad
    go_wp2_with fail
    refine (CRF.out _ hb).mono ?_; rintro e W2 ⟨rfl, rfl⟩
    go_wp2_with fail
    refine (awake_any _).mono ?_; rintro e Wz ⟨rfl, hx⟩
    replace hb := ext_trans hb hx
    go_wp2
    go_ret
    exact ⟨rfl, hb⟩
  case pos =>
  rw [hroad] at CRF
  go_wp2_with fail
  refine (CRF.out _ hb).mono ?_; rintro e W2 ⟨rfl, rfl⟩
  clear CRF
  obtain ⟨hr10, hr20, hrF⟩ := cut_rows Hb2.out rfl
  obtain ⟨hlo, h14, hok⟩ := checkE_zero.1 h0
  have hlm := hlo.many
  simp only at hlm
  have hbs := (roadE_zero.1 hroad).1
  have hrl : ∀ x ∈ rs, x.r.length ≤ 1000000000 := fun x hx => by have := hr20 x hx; omega
  have CL := Lib.hid (fun V (hV : Below w.heap.size w V) => lorryC A c h ca em re ax dk l V (by omega) (Hd.out.ext hV))
  have CTh := Lib.hid (fun V (T1 : Option Addr) (e1 : Nat) (us : List Th) (hu : us.length ≤ 100) (h7 : Cells V T1 4 Th.enc us) => thingsC T1 e1 us V (by omega) h7)
  have CLa := Lib.hid (fun V (hV : Below w.heap.size w V) => lanesC R cR rs V (by omega) (HMM.out.ext hV) hrl)
  have CLw := Lib.hid (fun V (hV : Below w.heap.size w V) => lanes_own R rs.length cR rs V rfl (by omega) (HMM.out.ext hV) hrl)
  have CRo := Lib.hid (fun V (hV : Below w.heap.size w V) => roadC B cB bs V (by omega) (HB.out.ext hV))
  have CR := Lib.hid (fun V (A1 : Option Addr) (d1 : Nat) (T1 : Option Addr) (e1 : Nat) (R1 : Option Addr) (f1 : Nat) (r1 : List RwV) (h8 : rows r1 = rows rs) (h5 : r1.length = rs.length) (h6 : Cells V A1 1 Go.Bs.encI l) (h7 : Cells V T1 4 Th.enc ts) (hM1 : RwM V R1 r1) => rightC A1 d1 h ca em re ax dk l T1 e1 ts R1 f1 r1 (rows rs) V (by omega) (by omega) (by omega) (flat_of_rows h8 (by omega)) h6 h7 hM1 h8)
  have CSt := Lib.hid (fun V (A1 : Option Addr) (d1 : Nat) (T1 : Option Addr) (e1 : Nat) (us : List Th) (hu : us.length ≤ 100) (R1 : Option Addr) (f1 : Nat) (r1 : List RwV) (P : List (List Int)) (h8 : rows r1 = P) (h5 : r1.length ≤ 10) (hf : (rows r1).flatten.length ≤ 1000) (h6 : Cells V A1 1 Go.Bs.encI l) (h7 : Cells V T1 4 Th.enc us) (hM1 : RwM V R1 r1) (B1 : Option Addr) (g1 : Nat) (h9 : Cells V B1 2 Br.enc bs) => stopsC A1 d1 h ca em re ax dk l T1 e1 us R1 f1 r1 P B1 g1 bs V (by omega) (by omega) (by omega) (by omega) h6 h7 hM1 h8 (by omega) h9)
  have q0 : W1.cell? ⟨w.heap.size, 0, none⟩ = _ := hP.cell rfl
  have q1 : W1.cell? ⟨w.heap.size, 1, none⟩ = _ := hP.cell rfl
  have q2 : W1.cell? ⟨w.heap.size, 2, none⟩ = _ := hP.cell rfl
  have q3 : W1.cell? ⟨w.heap.size, 3, none⟩ = _ := hP.cell rfl
  have q4 : W1.cell? ⟨w.heap.size, 4, none⟩ = _ := hP.cell rfl
  have q5 : W1.cell? ⟨w.heap.size, 5, none⟩ = _ := hP.cell rfl
  have q6 : W1.cell? ⟨w.heap.size, 6, none⟩ = _ := hP.cell rfl
  go_wp2_with fail
  refine (CL.out _ hb).mono ?_; rintro e V1 ⟨⟨A1, d1, rfl, hA1⟩, hx⟩
  replace hb := ext_trans hb hx
  replace hP := hP.ext hx
  replace hT := hT.ext hx
  clear hx
  clear q0 q1 q2 q3 q4 q5 q6
  go_wp2_with fail
  refine (CTh.out _ T cT ts (by omega) (Ht.out.ext hb)).mono ?_; rintro e V2 ⟨⟨T1, e1, rfl, hT1⟩, hx⟩
  replace hb := ext_trans hb hx
  replace hP := hP.ext hx
  replace hT := hT.ext hx
  replace hA1 := hA1.ext hx
  clear hx
  go_wp2_with fail
  refine (CLa.out _ hb).mono ?_; rintro e V3 ⟨⟨R1, f1, r1, rfl, hr1, hR1⟩, hx⟩
  replace hb := ext_trans hb hx
  replace hP := hP.ext hx
  replace hT := hT.ext hx
  replace hA1 := hA1.ext hx
  replace hT1 := hT1.ext hx
  clear hx
  have hrn : r1.length = rs.length := by rw [← rows_len, hr1, rows_len]
  have CR1 := CR.out V3 A1 d1 T1 e1 R1 f1 r1 hr1 hrn hA1 hT1 hR1
  rw [hrn] at CR1
  replace CR1 := Lib.hid CR1
  clear hr1 hrn hA1 hT1 hR1
  generalize hb3 : rightE ⟨l, h, ca, em, re, ax, dk⟩ ts (rows rs) = b3 at *
  have Hb3 := Lib.hid hb3
  clear hb3
  go_wp2_with fail
  refine (CR1.out).mono ?_; rintro e V4 ⟨rfl, hx⟩
  replace hb := ext_trans hb hx
  replace hP := hP.ext hx
  replace hT := hT.ext hx
  clear hx CR1 CR
  cases b3
  · go_wp2_with fail
    refine (awake_any _).mono ?_; rintro e Wz ⟨rfl, hx⟩
    replace hb := ext_trans hb hx
    go_wp2
    go_ret
    exact ⟨rfl, hb⟩
  have hright : rightB ⟨l, h, ca, em, re, ax, dk⟩ ts (rows rs) = true := by
    have := Hb3.out
    unfold rightE at this
    rw [Bool.and_eq_true] at this
    exact this.2
  have hrsl : rs.length = l.length := by rw [← rows_len]; exact (right_iff.1 hright).many
  have hne : ((rs.length : Int) == 0) = false := by rw [beq_eq_false_iff_ne]; omega
  have Hrsl := Lib.hid hrsl
  clear hrsl
  go_upto_region 3 with fail
  obtain ⟨us, hus⟩ : ∃ us : List Th, ts ++ [⟨ta, tb, tc, td⟩] = us := ⟨_, rfl⟩
  have Hus := Lib.hid hus
  have Hul := Lib.hid (show us.length = ts.length + 1 by rw [← hus, List.length_append]; rfl)
  clear hus
  go_cut [15] (fun v W => (∃ G cG, v = .slice G us.length cG ∧ Cells W G 4 Th.enc us) ∧ Below V4.heap.size V4 W)
  case first =>
    refine Dr.wp_region_plan 4 [] (.q [0, 2] (.e2 1 (.e1 3 .done) 3 (.e1 1 .done))) (by kernel_rfl) (by kernel_rfl) ?_
    have hbY := ext_drew V4
    have hTY := hT.drew
    have htY := (Ht.out.ext hb).drew
    have hsY : V4.heap.size ≤ V4.drew.heap.size := hbY.size
    generalize World.drew V4 = Y0 at *
    have t0 := Dr.cell0 (hTY.cell (i := 0) rfl)
    have t1 := Dr.cell0 (hTY.cell (i := 1) rfl)
    have t2 := Dr.cell0 (hTY.cell (i := 2) rfl)
    have t3 := Dr.cell0 (hTY.cell (i := 3) rfl)
    with_reducible refine Dr.plan_q (l := [_, _]) (by with_unfolding_all exact rfl) (fun K hK => ?_)
    iterate 2 (go_big_quiet_step (fail))
    refine wpQuiet_nil (hK _ ?_); clear hK K
    clear t0 t1 t2 t3 hTY
    have ho0 : OwnL Y0 Y0.heap.size 62 4 Th.enc (.slice none 0 0) ([] : List Th) := OwnL.nil
    have hnew : ([] ++ ts) ++ [⟨ta, tb, tc, td⟩] = us := by rw [← Hus.out]; rfl
    refine Dr.plan_e2 ?_ ?_
    · refine Dr.plan_e rfl (by rfl) (fun K hK => ?_)
      refine app_row_op Th.enc 38 62 4 32 et38 (by decide) (by decide) th_len th_one _ _ rfl Y0.heap.size _ [] rfl ho0 T ts.length cT ts rfl rfl htY (by simp; omega) (Nat.le_refl _) (fun v1 U1 ho1 hb1 hg1 => ?_)
      refine hK _ _ (.of hb1) ?_; clear hK K
      go_frame
      have hn1 := Blk.new U1 62 [.int .i64 ta, .int .i64 tb, .int .i64 tc, .int .i64 td]
      have hxb := ext_alloc U1 (.cells #[.int .i64 ta, .int .i64 tb, .int .i64 tc, .int .i64 td] 62)
      refine Dr.plan_e rfl (by rfl) (fun K hK => ?_)
      go_wp2
      refine hK _ _ (.of (ext_alloc _ _)) ?_; clear hK K
      change Blk (U1.alloc (.cells #[.int .i64 ta, .int .i64 tb, .int .i64 tc, .int .i64 td] 62)) _ _ _ at hn1
      change Below U1.heap.size U1 (U1.alloc (.cells #[.int .i64 ta, .int .i64 tb, .int .i64 tc, .int .i64 td] 62)) at hxb
      generalize U1.alloc (.cells #[.int .i64 ta, .int .i64 tb, .int .i64 tc, .int .i64 td] 62) = U2 at *
      have hbU := hb1.trans (hxb.mono hb1.size)
      have ho2 := ho1.ext hxb
      have hnc := cells_of (l := [(⟨ta, tb, tc, td⟩ : Th)]) th_len hn1 rfl
      refine Dr.plan_done (tl := [_, _]) rfl ?_
      refine app_row Th.enc 38 62 4 32 et38 (by decide) (by decide) th_len th_one rfl _ _ rfl Y0.heap.size _ ([] ++ ts) rfl ho2 (some ⟨U1.heap.size, 0, none⟩) 1 1 [⟨ta, tb, tc, td⟩] rfl rfl hnc (by simp; omega) hbU.size (fun v3 U3 ho3 hb3 _ _ => ?_)
      rw [hnew] at ho3
      obtain ⟨G, cG, eG, -, -, hcG⟩ := ho3.cells th_len
      subst eG
      have hbZ := hbY.trans ((hbU.trans hb3).mono hsY)
      clear ho1 ho2 ho3 hb1 hg1 hnc hn1 hxb
      go_wp2
      go_meet
      case rel => exact ⟨⟨G, cG, rfl, hcG⟩, hbZ⟩
    · have hn1 := Blk.new Y0 62 [.int .i64 ta, .int .i64 tb, .int .i64 tc, .int .i64 td]
      have hxb := ext_alloc Y0 (.cells #[.int .i64 ta, .int .i64 tb, .int .i64 tc, .int .i64 td] 62)
      refine Dr.plan_e rfl (by rfl) (fun K hK => ?_)
      go_wp2
      refine hK _ _ (.of (ext_alloc _ _)) ?_; clear hK K
      change Blk (Y0.alloc (.cells #[.int .i64 ta, .int .i64 tb, .int .i64 tc, .int .i64 td] 62)) _ _ _ at hn1
      change Below Y0.heap.size Y0 (Y0.alloc (.cells #[.int .i64 ta, .int .i64 tb, .int .i64 tc, .int .i64 td] 62)) at hxb
      generalize Y0.alloc (.cells #[.int .i64 ta, .int .i64 tb, .int .i64 tc, .int .i64 td] 62) = U1 at *
      have ho1 := ho0.ext hxb
      have ht1 := htY.ext hxb
      refine Dr.plan_e rfl (by rfl) (fun K hK => ?_)
      refine app_row_op Th.enc 38 62 4 32 et38 (by decide) (by decide) th_len th_one _ _ rfl Y0.heap.size _ [] rfl ho1 T ts.length cT ts rfl rfl ht1 (by simp; omega) hxb.size (fun v2 U2 ho2 hb2 hg2 => ?_)
      have hg0 : U1.grownBy U2 none := hg2
      have hbV : Below U1.heap.size U1 U2 := ⟨hg0.os, hg0.tape, hg0.output, hg0.size, fun k hk => hg0.block k hk (by simp)⟩
      refine hK _ _ (.of hbV) ?_; clear hK K
      go_frame
      have hnc := (cells_of (l := [(⟨ta, tb, tc, td⟩ : Th)]) th_len hn1 rfl).ext hbV
      have hbU := hxb.trans hb2
      refine Dr.plan_done (tl := [_, _]) rfl ?_
      refine app_row Th.enc 38 62 4 32 et38 (by decide) (by decide) th_len th_one rfl _ _ rfl Y0.heap.size _ ([] ++ ts) rfl ho2 (some ⟨Y0.heap.size, 0, none⟩) 1 1 [⟨ta, tb, tc, td⟩] rfl rfl hnc (by simp; omega) hbU.size (fun v3 U3 ho3 hb3 _ _ => ?_)
      rw [hnew] at ho3
      obtain ⟨G, cG, eG, -, -, hcG⟩ := ho3.cells th_len
      subst eG
      have hbZ := hbY.trans ((hbU.trans hb3).mono hsY)
      clear ho1 ho2 ho3 hg0 hg2 hnc hn1 hxb
      go_wp2
      go_meet
      case rel => exact ⟨⟨G, cG, rfl, hcG⟩, hbZ⟩
  case rest =>
    obtain ⟨⟨G, cG, rfl, hG⟩, hbc⟩ := hcut
    obtain ⟨w6, hw6⟩ : ∃ V, V = wc := ⟨_, rfl⟩
    subst hw6
    replace hP := hP.ext hbc
    replace hb := ext_trans hb hbc
    clear hbc hT
    have hRP := right_iff.1 hright
    go_wp2_with fail
    refine (CLw.out _ hb).mono ?_; rintro e X0 ⟨⟨v9, r9, rfl, hr9, ho9, hj9, hn9⟩, hx⟩
    have hl9 : r9.length = rs.length := by rw [← rows_len, hr9, rows_len]
    obtain ⟨g, cap, rfl, hgb, hgl, -, -, hcg, hfz⟩ := ho9.blk rwv_len (by have := Hrsl.out; omega)
    rw [hl9]
    have hPl := hP.lt
    have hgw : w.heap.size < g := by omega
    have hb6 := hb
    replace hb := ext_trans hb hx
    have hx6 := hx
    have hout : ∀ x ∈ r9, x.A.map (·.block) ≠ some g := fun x hx e => by
      cases hA : x.A with
      | none => rw [hA] at e; cases e
      | some a =>
        rw [hA] at e
        have h5 := (hj9.out x hx a.block (by rw [hA]; rfl)).1
        simp only [Option.map_some, Option.some.injEq] at e
        exact h5 (by rw [e]; rfl)
    have hWs := hb.size
    obtain ⟨kk, hk, hkn⟩ : ∃ k : Nat, x.tmod (rs.length : Int) = k ∧ k < rs.length := by
      have hpos : (0 : Int) < (rs.length : Int) := by have := Hrsl.out; omega
      have h1 := Int.tmod_lt_of_pos x hpos
      have h2 := Int.tmod_nonneg (rs.length : Int) hx0.1
      exact ⟨(x.tmod (rs.length : Int)).toNat, by omega, by omega⟩
    have hk' : x % (rs.length : Int) = (kk : Int) := by rw [← Int.tmod_eq_emod_of_nonneg hx0.1]; exact hk
    have hkn' : (kk : Int) < (rs.length : Int) := by omega
    have hk9 : kk < r9.length := by rw [hl9]; exact hkn
    have hnz : ¬ (rs.length : Int) = 0 := by omega
    obtain ⟨b0, o0, e0, -, c0⟩ := hcg.at1 hk9 rfl
    cases e0
    rw [Nat.zero_add] at c0
    have hrow := hj9.row _ (List.getElem_mem hk9)
    have hrcap := hj9.cap _ (List.getElem_mem hk9)
    have hrle : r9[kk].r.length ≤ 20 := by
      have h5 : r9[kk].r ∈ rows rs := by rw [← hr9]; exact List.mem_map.2 ⟨_, List.getElem_mem hk9, rfl⟩
      obtain ⟨z, hz, e⟩ := List.mem_map.1 h5
      rw [← e]; exact hr20 z hz
    have hgk : ∃ z, r9[kk] = z := ⟨_, rfl⟩
    obtain ⟨⟨xr, xA, xc⟩, hxk⟩ := hgk
    have Hxk := Lib.hid hxk
    rw [hxk] at c0 hrow hrcap hrle
    simp only at c0 hrow hrcap hrle
    generalize hxl : xr.length = e1 at *
    have Hxl := Lib.hid hxl
    obtain ⟨i, hi, hin⟩ : ∃ i : Nat, y.tmod ((e1 : Int) + 1) = i ∧ i ≤ e1 := by
      have h1 := Int.tmod_lt_of_pos y (show (0 : Int) < (e1 : Int) + 1 by omega)
      have h2 := Int.tmod_nonneg ((e1 : Int) + 1) hy0.1
      exact ⟨(y.tmod ((e1 : Int) + 1)).toNat, by omega, by omega⟩
    have hi' : y % ((e1 : Int) + 1) = (i : Int) := by rw [← Int.tmod_eq_emod_of_nonneg hy0.1]; exact hi
    have hnz2 : ¬ (e1 : Int) + 1 = 0 := by omega
    clear hxl hxk
    go_upto_region 7 with fail
    go_cut [17] (fun a W => a = .int .i64 kk ∧ (∃ rQ, RwM W (some ⟨g, 0, none⟩) rQ ∧ rQ.length = rs.length ∧ (rows rQ).flatten.length ≤ 1000) ∧ Below w6.heap.size w6 W)
    case first =>
      refine Dr.Any.wp_region_plan 21 (Dr.Any.from_ X0.drew.heap.size) (.q [0, 1, 2, 3, 4, 5, 6, 7, 9, 10, 13, 14, 15, 16, 17, 18] (.e2 8 (.e1 11 (.e1 12 (.e1 19 (.q [20] .done)))) 11 (.e1 8 (.e1 12 (.e1 19 (.q [20] .done)))))) (by kernel_rfl) (by kernel_rfl) ?_
      have hbY : Below w6.heap.size w6 X0.drew := hx6.trans ((ext_drew X0).mono hx6.size)
      have c1 : X0.drew.cell? ⟨g, kk, none⟩ = some (.slice xA e1 xc) := c0
      have hrY : Cells X0.drew xA 1 Go.Bs.encI xr := hrow
      have hcY : Cells X0.drew (some ⟨g, 0, none⟩) 1 RwV.enc r9 := hcg
      have hraY : ∀ x ∈ r9, Cells X0.drew x.A 1 Go.Bs.encI x.r := fun x hx => (hj9.row x hx)
      have hfY : X0.drew.frozen? ⟨g, kk, none⟩ = false := hfz kk
      have hgY : g < X0.drew.heap.size := hgl
      clear c0 hrow hcg hfz ho9 hx hx6
      generalize World.drew X0 = Y0 at *
      have q1 := Dr.Any.cls_cell (M := Dr.Any.from_ Y0.heap.size) c1 (by rw [Dr.Any.mem_from]; simp only; omega)
      have hcut1 : ∀ wx, (Instr.slice 35 (.slice xA e1 xc) none (some (.int .i64 (i : Int))) none).run Try.prog wx = .ok (.slice xA i xc) wx := fun wx => by
        have := run_cut_hi (P := Try.prog) Try.underlying35 sz3 xA e1 xc i (by omega) wx
        rw [cutA_zero] at this
        exact this
      obtain ⟨e2, he2⟩ : ∃ e2, e1 - i = e2 := ⟨_, rfl⟩
      have hcut2 : ∀ wx, (Instr.slice 35 (.slice xA e1 xc) (some (.int .i64 (i : Int))) none none).run Try.prog wx = .ok (.slice (cutA xA 1 xc i) e2 (xc - i)) wx := fun wx => by
        rw [← he2]
        exact run_cut_lo (P := Try.prog) Try.underlying35 sz3 xA e1 xc i hin wx
      have htk := cells_take hrY i
      have hdr : Cells Y0 (cutA xA 1 xc i) 1 Go.Bs.encI (xr.drop i) := by
        have h9 := hrY.cut (cap := xc) (lo := i) (hi := e1) hin hrcap
        rw [List.take_of_length_le (by rw [List.length_drop, Hxl.out]; exact Nat.le_refl _)] at h9
        exact h9
      have Htl2 := Lib.hid (show (xr.take i).length = i by rw [List.length_take, Hxl.out]; omega)
      have Hdl2 := Lib.hid (show (xr.drop i).length = e2 by rw [List.length_drop, Hxl.out]; exact he2)
      have he2b : e2 ≤ 20 := by omega
      clear he2
      with_reducible refine Dr.Any.plan_q (l := [_, _, _, _, _, _, _, _, _, _, _, _, _, _, _, _]) (by with_unfolding_all exact rfl) (fun K hK => ?_)
      iterate 16 (go_big_quiet_step (fail))
      refine wpQuiet_nil (hK _ ?_); clear hK K
      clear q1 hrY hcut1 hcut2
      have hsz : Y0.heap.size ≤ Y0.heap.size := Nat.le_refl _
      refine Dr.Any.plan_e2 ?_ ?_
      · have CLi := Lib.hid (list_own xA i xc (xr.take i) Y0 Htl2.out (by omega) htk)
        refine Dr.Any.plan_e rfl (by rfl) (fun K hK => ?_)
        go_wp2_with fail
        refine CLi.out.mono ?_; rintro e U1 ⟨v1, rfl, hoL, hx⟩
        have hoU1 := own_lower hoL hsz
        refine hK _ _ (.of hx) ?_; clear hK K hoL CLi
        have hxU1 := hx
        replace hsz := Nat.le_trans hsz hx.size
        clear hx
        have hn1 := Blk.new U1 3 [.int .i64 (ts.length : Int)]
        have hxb := ext_alloc U1 (.cells #[.int .i64 (ts.length : Int)] 3)
        refine Dr.Any.plan_e rfl (by rfl) (fun K hK => ?_)
        go_wp2
        refine hK _ _ (.of (ext_alloc _ _)) ?_; clear hK K
        change Blk (U1.alloc (.cells #[.int .i64 (ts.length : Int)] 3)) _ _ _ at hn1
        change Below U1.heap.size U1 (U1.alloc (.cells #[.int .i64 (ts.length : Int)] 3)) at hxb
        generalize U1.alloc (.cells #[.int .i64 (ts.length : Int)] 3) = U2 at *
        replace hsz := Nat.le_trans hsz hxb.size
        have ho2 := hoU1.ext hxb
        have hnc : Cells U2 (some ⟨U1.heap.size, 0, none⟩) 1 Go.Bs.encI [(ts.length : Int)] := IArr.cells (B := U1.heap.size) (T := 3) (l := [(ts.length : Int)]) hn1
        refine Dr.Any.plan_e rfl (by rfl) (fun K hK => ?_)
        refine app_row_op Go.Bs.encI 35 3 1 8 et35 (by decide) (by decide) Go.Bs.encI_len Go.Bs.encI_one _ _ rfl Y0.heap.size _ (xr.take i) rfl ho2 (some ⟨U1.heap.size, 0, none⟩) 1 1 [(ts.length : Int)] rfl rfl hnc (by have := Htl2.out; first | (simp; omega) | simp) hsz (fun v3 U3 hoU3 hbU3 hgU3 => ?_)
        refine hK _ _ (Dr.Any.Bel.grown hgU3 (fun k hk => (ho2.lt hk).1)) ?_; clear hK K
        replace hsz := Nat.le_trans hsz hbU3.size
        go_frame
        have hb3 : Below Y0.heap.size Y0 U3 := (hxU1.trans (hxb.mono hxU1.size)).trans hbU3
        have hdr3 := hdr.ext hb3
        refine Dr.Any.plan_e rfl (by rfl) (fun K hK => ?_)
        refine app_row_op Go.Bs.encI 35 3 1 8 et35 (by decide) (by decide) Go.Bs.encI_len Go.Bs.encI_one _ _ rfl Y0.heap.size _ (xr.take i ++ [(ts.length : Int)]) rfl hoU3 (cutA xA 1 xc i) e2 (xc - i) (xr.drop i) Hdl2.out rfl hdr3 (by have := Htl2.out; first | (simp; omega) | simp) hsz (fun v4 U4 hoU4 hbU4 hgU4 => ?_)
        refine hK _ _ (Dr.Any.Bel.grown hgU4 (fun k hk => (hoU3.lt hk).1)) ?_; clear hK K
        replace hsz := Nat.le_trans hsz hbU4.size
        go_frame
        obtain ⟨A5, c5, e5, hc5, -, hcc⟩ := hoU4.cells Go.Bs.encI_len
        have hge := hoU4.block_ge e5
        subst e5
        have hbb : Below Y0.heap.size Y0 U4 := hb3.trans hbU4
        have hRQ := row_put (x' := ⟨(xr.take i ++ [(ts.length : Int)]) ++ xr.drop i, A5, c5⟩) (hcY.ext hbb) (fun x hx => (hraY x hx).ext hbb) hj9.cap hout hk9 hcc hc5 (fun e => by
          cases A5 with
          | none => cases e
          | some a =>
            have h5 := (hge a.block rfl).1
            simp only [Option.map_some, Option.some.injEq] at e
            omega)
        have hfl := flat_put r9 kk ⟨(xr.take i ++ [(ts.length : Int)]) ++ xr.drop i, A5, c5⟩ hk9
        have hll : ((xr.take i ++ [(ts.length : Int)]) ++ xr.drop i).length ≤ 100 := by have h1 := Htl2.out; have h2 := Hdl2.out; simp only [List.length_append, List.length_cons, List.length_nil]; omega
        rw [hr9] at hfl
        have hfl2 : (rows (r9.set kk ⟨(xr.take i ++ [(ts.length : Int)]) ++ xr.drop i, A5, c5⟩)).flatten.length ≤ 1000 := by simp only at hfl; omega
        have hset : (r9.set kk ⟨(xr.take i ++ [(ts.length : Int)]) ++ xr.drop i, A5, c5⟩).length = rs.length := by rw [List.length_set, hl9]
        have cc := Go.Bs.cell_ext c1 hbb
        have ff := frozen_ext hbb hgY hfY
        have hOl : g < U4.heap.size := by have := hbb.size; omega
        simp only at hRQ
        generalize r9.set kk ⟨(xr.take i ++ [(ts.length : Int)]) ++ xr.drop i, A5, c5⟩ = rQ at *
        generalize hLn : ((xr.take i ++ [(ts.length : Int)]) ++ xr.drop i).length = ln at *
        have hbO : Below w6.heap.size w6 (U4.setCell ⟨g, kk, none⟩ (.slice A5 ln c5)) := (hbY.trans (hbb.mono hbY.size)).trans ((Dr.Bel.store (M := [g]) (w := U4) (p := ⟨g, kk, none⟩) (by simp) _).old (by have := hbY.size; have := hbb.size; omega) (by simp; omega))
        have HRQ := Lib.hid hRQ
        clear hfl hll hRQ
        with_reducible refine Dr.Any.plan_q (l := [_]) (by with_unfolding_all exact rfl) (fun K hK => ?_)
        iterate 1 (go_big_quiet_step (fail))
        refine wpQuiet_nil (hK _ ?_); clear hK K
        refine Dr.Any.plan_done (tl := [_]) rfl ?_
        go_wp2
        have hRQ := HRQ.out
        clear HRQ
        generalize U4.setCell ⟨g, kk, none⟩ (.slice A5 ln c5) = U9 at *
        have HRQ := Lib.hid hRQ
        clear hRQ cc ff
        go_meet
        case rel => exact ⟨rfl, ⟨_, HRQ.out, hset, hfl2⟩, hbO⟩
      · have hn1 := Blk.new Y0 3 [.int .i64 (ts.length : Int)]
        have hxb := ext_alloc Y0 (.cells #[.int .i64 (ts.length : Int)] 3)
        refine Dr.Any.plan_e rfl (by rfl) (fun K hK => ?_)
        go_wp2
        refine hK _ _ (.of (ext_alloc _ _)) ?_; clear hK K
        change Blk (Y0.alloc (.cells #[.int .i64 (ts.length : Int)] 3)) _ _ _ at hn1
        change Below Y0.heap.size Y0 (Y0.alloc (.cells #[.int .i64 (ts.length : Int)] 3)) at hxb
        generalize Y0.alloc (.cells #[.int .i64 (ts.length : Int)] 3) = U1 at *
        replace hsz := Nat.le_trans hsz hxb.size
        have htk1 := htk.ext hxb
        have CLi := Lib.hid (list_own xA i xc (xr.take i) U1 Htl2.out (by omega) htk1)
        refine Dr.Any.plan_e rfl (by rfl) (fun K hK => ?_)
        go_wp2_with fail
        refine CLi.out.mono ?_; rintro e U2 ⟨v1, rfl, hoL, hx⟩
        have hoU2 := own_lower hoL hsz
        refine hK _ _ (.of hx) ?_; clear hK K hoL CLi
        have hxU2 := hx
        replace hsz := Nat.le_trans hsz hx.size
        clear hx
        have hnc : Cells U2 (some ⟨Y0.heap.size, 0, none⟩) 1 Go.Bs.encI [(ts.length : Int)] := (IArr.cells (B := Y0.heap.size) (T := 3) (l := [(ts.length : Int)]) hn1).ext hxU2
        refine Dr.Any.plan_e rfl (by rfl) (fun K hK => ?_)
        refine app_row_op Go.Bs.encI 35 3 1 8 et35 (by decide) (by decide) Go.Bs.encI_len Go.Bs.encI_one _ _ rfl Y0.heap.size _ (xr.take i) rfl hoU2 (some ⟨Y0.heap.size, 0, none⟩) 1 1 [(ts.length : Int)] rfl rfl hnc (by have := Htl2.out; first | (simp; omega) | simp) hsz (fun v3 U3 hoU3 hbU3 hgU3 => ?_)
        refine hK _ _ (Dr.Any.Bel.grown hgU3 (fun k hk => (hoU2.lt hk).1)) ?_; clear hK K
        replace hsz := Nat.le_trans hsz hbU3.size
        go_frame
        have hb3 : Below Y0.heap.size Y0 U3 := (hxb.trans (hxU2.mono hxb.size)).trans hbU3
        have hdr3 := hdr.ext hb3
        refine Dr.Any.plan_e rfl (by rfl) (fun K hK => ?_)
        refine app_row_op Go.Bs.encI 35 3 1 8 et35 (by decide) (by decide) Go.Bs.encI_len Go.Bs.encI_one _ _ rfl Y0.heap.size _ (xr.take i ++ [(ts.length : Int)]) rfl hoU3 (cutA xA 1 xc i) e2 (xc - i) (xr.drop i) Hdl2.out rfl hdr3 (by have := Htl2.out; first | (simp; omega) | simp) hsz (fun v4 U4 hoU4 hbU4 hgU4 => ?_)
        refine hK _ _ (Dr.Any.Bel.grown hgU4 (fun k hk => (hoU3.lt hk).1)) ?_; clear hK K
        replace hsz := Nat.le_trans hsz hbU4.size
        go_frame
        obtain ⟨A5, c5, e5, hc5, -, hcc⟩ := hoU4.cells Go.Bs.encI_len
        have hge := hoU4.block_ge e5
        subst e5
        have hbb : Below Y0.heap.size Y0 U4 := hb3.trans hbU4
        have hRQ := row_put (x' := ⟨(xr.take i ++ [(ts.length : Int)]) ++ xr.drop i, A5, c5⟩) (hcY.ext hbb) (fun x hx => (hraY x hx).ext hbb) hj9.cap hout hk9 hcc hc5 (fun e => by
          cases A5 with
          | none => cases e
          | some a =>
            have h5 := (hge a.block rfl).1
            simp only [Option.map_some, Option.some.injEq] at e
            omega)
        have hfl := flat_put r9 kk ⟨(xr.take i ++ [(ts.length : Int)]) ++ xr.drop i, A5, c5⟩ hk9
        have hll : ((xr.take i ++ [(ts.length : Int)]) ++ xr.drop i).length ≤ 100 := by have h1 := Htl2.out; have h2 := Hdl2.out; simp only [List.length_append, List.length_cons, List.length_nil]; omega
        rw [hr9] at hfl
        have hfl2 : (rows (r9.set kk ⟨(xr.take i ++ [(ts.length : Int)]) ++ xr.drop i, A5, c5⟩)).flatten.length ≤ 1000 := by simp only at hfl; omega
        have hset : (r9.set kk ⟨(xr.take i ++ [(ts.length : Int)]) ++ xr.drop i, A5, c5⟩).length = rs.length := by rw [List.length_set, hl9]
        have cc := Go.Bs.cell_ext c1 hbb
        have ff := frozen_ext hbb hgY hfY
        have hOl : g < U4.heap.size := by have := hbb.size; omega
        simp only at hRQ
        generalize r9.set kk ⟨(xr.take i ++ [(ts.length : Int)]) ++ xr.drop i, A5, c5⟩ = rQ at *
        generalize hLn : ((xr.take i ++ [(ts.length : Int)]) ++ xr.drop i).length = ln at *
        have hbO : Below w6.heap.size w6 (U4.setCell ⟨g, kk, none⟩ (.slice A5 ln c5)) := (hbY.trans (hbb.mono hbY.size)).trans ((Dr.Bel.store (M := [g]) (w := U4) (p := ⟨g, kk, none⟩) (by simp) _).old (by have := hbY.size; have := hbb.size; omega) (by simp; omega))
        have HRQ := Lib.hid hRQ
        clear hfl hll hRQ
        with_reducible refine Dr.Any.plan_q (l := [_]) (by with_unfolding_all exact rfl) (fun K hK => ?_)
        iterate 1 (go_big_quiet_step (fail))
        refine wpQuiet_nil (hK _ ?_); clear hK K
        refine Dr.Any.plan_done (tl := [_]) rfl ?_
        go_wp2
        have hRQ := HRQ.out
        clear HRQ
        generalize U4.setCell ⟨g, kk, none⟩ (.slice A5 ln c5) = U9 at *
        have HRQ := Lib.hid hRQ
        clear hRQ cc ff
        go_meet
        case rel => exact ⟨rfl, ⟨_, HRQ.out, hset, hfl2⟩, hbO⟩
    case rest =>
      obtain ⟨rfl, ⟨rQ, hQ, hQl, hQf⟩, hbc⟩ := hcut
      clear ho9 hj9 hcg hfz c0 hrow hx hx6 hout hn9 CLw hb
      replace hP := hP.ext hbc
      replace hG := hG.ext hbc
      have hb := ext_trans hb6 hbc
      clear hb6 hbc
      have hHS := stop_pair (Q := rows rQ) (bs := bs) h0 hright hroad (by omega) Hus.out
      obtain ⟨hS1, hS2⟩ := hHS
      have hSl1 := stopsTo_len ⟨l, h, ca, em, re, ax, dk⟩ ts (rows rs).flatten bs bs.length
      have hSl2 := stopVal_len ⟨l, h, ca, em, re, ax, dk⟩ us (rows rQ) bs
      have hu100 : us.length ≤ 100 := by have := Hul.out; omega
      have hJ1 : (stopVal ⟨l, h, ca, em, re, ax, dk⟩ ts (rows rs) bs).1.length ≤ 30 := by rw [hS1]; exact Nat.le_trans hSl1 hbs
      generalize hsv1 : stopVal ⟨l, h, ca, em, re, ax, dk⟩ ts (rows rs) bs = sv1 at *
      generalize hsv2 : stopVal ⟨l, h, ca, em, re, ax, dk⟩ us (rows rQ) bs = sv2 at *
      have HE1 := Lib.hid hsv1
      have HE2 := Lib.hid hsv2
      have HS1 := Lib.hid hS1
      clear hS1 hsv1 hsv2 hSl1 hright hRP hr9 hkn hkn' hk hk' hi hi' hnz hnz2 hrcap hrle hin h0 hlo
      have q0 : wc.cell? ⟨w.heap.size, 0, none⟩ = _ := hP.cell rfl
      have q1 : wc.cell? ⟨w.heap.size, 1, none⟩ = _ := hP.cell rfl
      have q2 : wc.cell? ⟨w.heap.size, 2, none⟩ = _ := hP.cell rfl
      have q3 : wc.cell? ⟨w.heap.size, 3, none⟩ = _ := hP.cell rfl
      have q4 : wc.cell? ⟨w.heap.size, 4, none⟩ = _ := hP.cell rfl
      have q5 : wc.cell? ⟨w.heap.size, 5, none⟩ = _ := hP.cell rfl
      have q6 : wc.cell? ⟨w.heap.size, 6, none⟩ = _ := hP.cell rfl
      go_wp2_with fail
      refine (CL.out _ hb).mono ?_; rintro e X1 ⟨⟨A1, d1, rfl, hA1⟩, hx⟩
      replace hb := ext_trans hb hx
      replace hP := hP.ext hx
      replace hG := hG.ext hx
      replace hQ := hQ.ext hx
      clear hx
      clear q0 q1 q2 q3 q4 q5 q6
      go_wp2_with fail
      refine (CTh.out _ T cT ts (by omega) (Ht.out.ext hb)).mono ?_; rintro e X2 ⟨⟨T1, e1x, rfl, hT1⟩, hx⟩
      replace hb := ext_trans hb hx
      replace hP := hP.ext hx
      replace hG := hG.ext hx
      replace hQ := hQ.ext hx
      replace hA1 := hA1.ext hx
      clear hx
      go_wp2_with fail
      refine (CLa.out _ hb).mono ?_; rintro e X3 ⟨⟨R1, f1, r1, rfl, hr1, hR1⟩, hx⟩
      replace hb := ext_trans hb hx
      replace hP := hP.ext hx
      replace hG := hG.ext hx
      replace hQ := hQ.ext hx
      replace hA1 := hA1.ext hx
      replace hT1 := hT1.ext hx
      clear hx
      go_wp2_with fail
      refine (CRo.out _ hb).mono ?_; rintro e X4 ⟨⟨B1, g1, rfl, hB1⟩, hx⟩
      replace hb := ext_trans hb hx
      replace hP := hP.ext hx
      replace hG := hG.ext hx
      replace hQ := hQ.ext hx
      replace hA1 := hA1.ext hx
      replace hT1 := hT1.ext hx
      replace hR1 := hR1.ext hx
      clear hx
      have hrn : r1.length = rs.length := by rw [← rows_len, hr1, rows_len]
      have CS1 := CSt.out X4 A1 d1 T1 e1x ts (by omega) R1 f1 r1 (rows rs) hr1 (by omega) (by rw [hr1]; omega) hA1 hT1 hR1 B1 g1 hB1
      rw [hrn, HE1.out] at CS1
      replace CS1 := Lib.hid CS1
      clear hr1 hrn hA1 hT1 hR1 hB1
      go_wp2_with fail
      refine (CS1.out).mono ?_; rintro e X5 ⟨⟨S1, s1, rfl, hA8⟩, hx⟩
      replace hb := ext_trans hb hx
      replace hP := hP.ext hx
      replace hG := hG.ext hx
      replace hQ := hQ.ext hx
      clear hx CS1
      have q0 : X5.cell? ⟨w.heap.size, 0, none⟩ = _ := hP.cell rfl
      have q1 : X5.cell? ⟨w.heap.size, 1, none⟩ = _ := hP.cell rfl
      have q2 : X5.cell? ⟨w.heap.size, 2, none⟩ = _ := hP.cell rfl
      have q3 : X5.cell? ⟨w.heap.size, 3, none⟩ = _ := hP.cell rfl
      have q4 : X5.cell? ⟨w.heap.size, 4, none⟩ = _ := hP.cell rfl
      have q5 : X5.cell? ⟨w.heap.size, 5, none⟩ = _ := hP.cell rfl
      have q6 : X5.cell? ⟨w.heap.size, 6, none⟩ = _ := hP.cell rfl
      go_wp2_with fail
      refine (CL.out _ hb).mono ?_; rintro e X6 ⟨⟨A1, d1, rfl, hA1⟩, hx⟩
      replace hb := ext_trans hb hx
      replace hG := hG.ext hx
      replace hQ := hQ.ext hx
      replace hA8 := hA8.ext hx
      clear hx CL hP
      clear q0 q1 q2 q3 q4 q5 q6
      go_wp2_with fail
      refine (CTh.out _ G cG us (by omega) hG).mono ?_; rintro e X7 ⟨⟨T1, e1x, rfl, hT1⟩, hx⟩
      replace hb := ext_trans hb hx
      replace hQ := hQ.ext hx
      replace hA8 := hA8.ext hx
      replace hA1 := hA1.ext hx
      clear hx
      go_wp2_with fail
      refine (CRo.out _ hb).mono ?_; rintro e X8 ⟨⟨B1, g1, rfl, hB1⟩, hx⟩
      replace hb := ext_trans hb hx
      replace hQ := hQ.ext hx
      replace hA8 := hA8.ext hx
      replace hA1 := hA1.ext hx
      replace hT1 := hT1.ext hx
      clear hx
      have CS2 := CSt.out X8 A1 d1 T1 e1x us (by omega) (some ⟨g, 0, none⟩) cap rQ (rows rQ) rfl (by omega) hQf hA1 hT1 hQ B1 g1 hB1
      rw [hQl, HE2.out] at CS2
      replace CS2 := Lib.hid CS2
      clear hA1 hT1 hQ hB1 hG
      go_wp2_with fail
      refine (CS2.out).mono ?_; rintro e Xb ⟨⟨S2, s2, rfl, hA9⟩, hx⟩
      replace hb := ext_trans hb hx
      replace hA8 := hA8.ext hx
      clear hx CS2
      obtain ⟨l1, f1'⟩ := sv1
      obtain ⟨l2, f2⟩ := sv2
      simp only at hS2 hJ1 hSl2
      obtain rfl : f1' = 0 := by have h7 := HS1.out; injection h7
      have h00 : ((0 : Int) != 0) = false := rfl
      have HS2 := Lib.hid hS2
      clear HS1 hS2 HE1 HE2
      rcases HS2.out with rfl | rfl | ⟨rfl, hsub⟩
      · go_wp2_with fail
        refine (awake_any _).mono ?_; rintro e Wz ⟨rfl, hx⟩
        replace hb := ext_trans hb hx
        go_wp2
        go_ret
        exact ⟨rfl, hb⟩
      · go_wp2_with fail
        refine (awake_any _).mono ?_; rintro e Wz ⟨rfl, hx⟩
        replace hb := ext_trans hb hx
        go_wp2
        go_ret
        exact ⟨rfl, hb⟩
      · have Hsub := Lib.hid hsub
        clear HS2 hsub
        go_wp2
        go_loopw [23, 24, 25] (fun t _ _ wr => ∃ z : Nat, t = .int .i64 z ∧ z ≤ l1.length ∧ Below Xb.heap.size Xb wr) (fun t _ _ _ => l1.length - (intOf t).toNat)
        case atStart => exact ⟨0, rfl, by omega, Below.refl _ _⟩
        case round =>
          obtain ⟨z, rfl, hz, hbr⟩ := hrel
          by_cases hzl : z < l1.length
          · have hzl' : (z : Int) < (l1.length : Int) := by omega
            obtain ⟨ba, oa, rfl, -, d1⟩ := hA8.at1 hzl rfl
            have Hm := Lib.hid (Hsub.out _ (List.getElem_mem hzl))
            generalize l1[z] = v1 at *
            obtain ⟨w7, hw7⟩ : ∃ V, V = wr := ⟨_, rfl⟩
            subst hw7
            have hz0 : (0 : Int) ≤ (z : Int) := by omega
            go_wp2
            go_loopw [24, 25] (fun th t wi => ∃ (y : Nat), t = .int .i64 y ∧ y ≤ l2.length ∧ th = .bool (hasB v1 l2 y) ∧ Below Xb.heap.size Xb wi) (fun _ t _ => l2.length - (intOf t).toNat)
            case atStart => exact ⟨0, rfl, by omega, by rw [hasB_zero], hbr⟩
            case round =>
              obtain ⟨y, rfl, hy, rfl, hbi⟩ := hrel
              generalize hbv : hasB v1 l2 y = b at *
              have Hb := Lib.hid hbv.symm
              clear hbv
              by_cases hyl : y < l2.length
              · have hyl' : (y : Int) < (l2.length : Int) := by omega
                have hy0 : (0 : Int) ≤ (y : Int) := by omega
                obtain ⟨bb, ob, rfl, -, d2⟩ := hA9.at1 hyl rfl
                have Hnx := Lib.hid (hasB_succ v1 l2 y hyl)
                generalize l2[y] = v2 at *
                have e1c := Go.Bs.cell_ext d1 hbi
                have e2c := Go.Bs.cell_ext d2 hbi
                go_upto_region 21 with fail
                refine Dr.wp_region_plan 13 [] (.q [0, 1, 2, 3, 4, 5, 6, 7, 8, 9, 10, 11, 12] .done) (by kernel_rfl) (by kernel_rfl) ?_
                replace hbi := hbi.drew
                have g1 := Dr.cell0 (w := wr.drew) e1c
                have g2 := Dr.cell0 (w := wr.drew) e2c
                clear e1c e2c
                generalize World.drew wr = wj at *
                cases b
                · by_cases hv : v2 = v1
                  · have hv' : (v2 == v1) = true := by rw [beq_iff_eq]; exact hv
                    have Hb2 := Lib.hid (show true = hasB v1 l2 (y + 1) by rw [Hnx.out, decide_eq_true hv, Bool.or_true])
                    clear hv
                    with_reducible refine Dr.plan_q (l := [_, _, _, _, _, _, _, _, _, _, _, _, _]) (by with_unfolding_all exact rfl) (fun K hK => ?_)
                    iterate 13 (go_big_quiet_step (fail))
                    refine wpQuiet_nil (hK _ ?_); clear hK K
                    refine Dr.plan_end rfl ?_
                    go_wp2
                    go_roundw
                    case rel => exact ⟨y + 1, by go_num, by omega, by rw [← Hb2.out], hbi⟩
                    case measure => simp [intOf]; omega
                  · have hv' : (v2 == v1) = false := by rw [beq_eq_false_iff_ne]; exact hv
                    have Hb2 := Lib.hid (show false = hasB v1 l2 (y + 1) by rw [Hnx.out, decide_eq_false hv, ← Hb.out]; rfl)
                    clear hv
                    with_reducible refine Dr.plan_q (l := [_, _, _, _, _, _, _, _, _, _, _, _, _]) (by with_unfolding_all exact rfl) (fun K hK => ?_)
                    iterate 13 (go_big_quiet_step (fail))
                    refine wpQuiet_nil (hK _ ?_); clear hK K
                    refine Dr.plan_end rfl ?_
                    go_wp2
                    go_roundw
                    case rel => exact ⟨y + 1, by go_num, by omega, by rw [← Hb2.out], hbi⟩
                    case measure => simp [intOf]; omega
                · have Hb2 := Lib.hid (show true = hasB v1 l2 (y + 1) by rw [Hnx.out, ← Hb.out]; rfl)
                  with_reducible refine Dr.plan_q (l := [_, _, _, _, _, _, _, _, _, _, _, _, _]) (by with_unfolding_all exact rfl) (fun K hK => ?_)
                  iterate 13 (go_big_quiet_step (fail))
                  refine wpQuiet_nil (hK _ ?_); clear hK K
                  refine Dr.plan_end rfl ?_
                  go_wp2
                  go_roundw
                  case rel => exact ⟨y + 1, by go_num, by omega, by rw [← Hb2.out], hbi⟩
                  case measure => simp [intOf]; omega
              · have hbt : b = true := by
                  rw [Hb.out]
                  exact hasB_all (by omega) Hm.out
                subst hbt
                have hyl' : ¬ (y : Int) < (l2.length : Int) := by omega
                go_wp2
                go_roundw
                case rel => exact ⟨z + 1, by go_num, by omega, hbi⟩
                case measure => simp [intOf]; omega
          · have hzl' : ¬ (z : Int) < (l1.length : Int) := by omega
            replace hb := ext_trans hb hbr
            go_wp2_with fail
            refine (awake_any _).mono ?_; rintro e Wz ⟨rfl, hx⟩
            replace hb := ext_trans hb hx
            go_wp2
            go_ret
            exact ⟨rfl, hb⟩
end Go.Proofs.Ytbpmfaibcibleaa

/- The law WagonBridges returns true for every argument, and leaves all as they were. No condition. -/
namespace Go.Proofs.Ytbpmfaibcibleaa
open Go.ChangeShapes Go.WideShapes Go.ChangeAt Go.RowKit Go.Joins Go.Bs Go.Wg

set_option maxRecDepth 100000 in
theorem wagonBridges_lifted (os : Os) (started : os.Started) (H : Type) (enc : TypeId × Value → H) :
    ReturnsInHanded {} Try.checked os 13 .any (Rows.wagonBridgesSpec.pre6 enc Try.prog Try.f13 Rows.wagonBridgesRow.domain false) (Rows.wagonBridgesSpec.post enc Try.prog Try.f13 false true false false) := by
  refine returnsInHanded_of_change (C := Try.checked) ownK started (by kernel_rfl) Try.func13
    (ChangeSpec.witness6 (enc := enc) (C := Try.checked) false ⟨#[], #[.agg #[.slice none 0 0, .int .i64 0, .int .i64 0, .int .i64 0, .int .i64 0, .int .i64 0, .int .i64 0], .slice none 0 0, .slice none 0 0, .slice none 0 0, .agg #[.int .i64 0, .int .i64 0, .int .i64 0, .int .i64 0], .int .u8 0, .int .u8 0], []⟩ 8 (by kernel_rfl) (by kernel_rfl) (by kernel_rfl) (by kernel_rfl)) ?_
  intro W base args ds gs before hval0 hW hcnd _
  have hval : ∀ (j : Nat) t v, Try.f13.params[j]? = some t → args[j]? = some v → Value.okWide Try.prog W .any base t v := hval0
  have hW' := hW
  obtain ⟨p, q, hT0, hV, rfl, hfz, hnd⟩ := hW
  have hA : DataW.TrodAll enc Try.prog W 0 (fun _ => true) true Try.f13.params.toList args.toList ds p := hT0
  rw [Try.params13] at hA hval
  obtain ⟨v0, vs0, d0, ds0, p0, q0, hargs, rfl, rfl, h0, r0⟩ := trodAll_cons hA
  obtain ⟨v1, vs1, d1, ds1, p1, q1, rfl, rfl, rfl, h1, r1⟩ := trodAll_cons r0
  obtain ⟨v2, vs2, d2, ds2, p2, q2, rfl, rfl, rfl, h2, r2⟩ := trodAll_cons r1
  obtain ⟨v3, vs3, d3, ds3, p3, q3, rfl, rfl, rfl, h3, r3⟩ := trodAll_cons r2
  obtain ⟨v4, vs4, d4, ds4, p4, q4, rfl, rfl, rfl, h4, r4⟩ := trodAll_cons r3
  obtain ⟨v5, vs5, d5, ds5, p5, q5, rfl, rfl, rfl, h5, r5⟩ := trodAll_cons r4
  obtain ⟨v6, vs6, d6, ds6, p6, q6, rfl, rfl, rfl, h6, r6⟩ := trodAll_cons r5
  obtain ⟨rfl, rfl, rfl⟩ := trodAll_nil r6
  obtain rfl : args = #[v0, v1, v2, v3, v4, v5, v6] := by cases args; simp_all
  obtain ⟨rfl, rfl⟩ := trodVars_none hV
  have k0 := h0
  have lt0 : ∀ x ∈ p0, x.block < W.heap.size := by obtain ⟨m, hm⟩ := k0; exact DataW.trod_lt m _ _ _ hm
  have k1 := h1
  have lt1 : ∀ x ∈ p1, x.block < W.heap.size := by obtain ⟨m, hm⟩ := k1; exact DataW.trod_lt m _ _ _ hm
  have k2 := h2
  have lt2 : ∀ x ∈ p2, x.block < W.heap.size := by obtain ⟨m, hm⟩ := k2; exact DataW.trod_lt m _ _ _ hm
  have k3 := h3
  have lt3 : ∀ x ∈ p3, x.block < W.heap.size := by obtain ⟨m, hm⟩ := k3; exact DataW.trod_lt m _ _ _ hm
  have k4 := h4
  have lt4 : ∀ x ∈ p4, x.block < W.heap.size := by obtain ⟨m, hm⟩ := k4; exact DataW.trod_lt m _ _ _ hm
  have k5 := h5
  have lt5 : ∀ x ∈ p5, x.block < W.heap.size := by obtain ⟨m, hm⟩ := k5; exact DataW.trod_lt m _ _ _ hm
  have k6 := h6
  have lt6 : ∀ x ∈ p6, x.block < W.heap.size := by obtain ⟨m, hm⟩ := k6; exact DataW.trod_lt m _ _ _ hm
  obtain ⟨A0, n0, c0, l0, h_0, ca0, em0, re0, ax0, dk0, rfl, hl0, hlc0, hm0, hc0⟩ := lorry_arg (hval 0 37 v0 rfl rfl) h0
  obtain ⟨A1, n1, c1, l1, rfl, hl1, hlc1, hm1, hc1⟩ := things_arg (hval 1 38 v1 rfl rfl) h1
  obtain ⟨A2, n2, c2, rs2, rfl, hl2, hlc2, hm2, hM2⟩ := rows_arg (hval 2 41 v2 rfl rfl) h2
  obtain ⟨A3, n3, c3, l3, rfl, hl3, hlc3, hm3, hc3⟩ := bridges_arg (hval 3 77 v3 rfl rfl) h3
  obtain ⟨a4, b4, c4, e4, rfl⟩ := thing_arg (hval 4 62 v4 rfl rfl) h4
  obtain ⟨x5, rfl, hx5⟩ := u8_arg (hval 5 5 v5 rfl rfl) h5
  obtain ⟨x6, rfl, hx6⟩ := u8_arg (hval 6 5 v6 rfl rfl) h6
  clear hT0 hval0
  refine (bridges_law A0 n0 c0 h_0 ca0 em0 re0 ax0 dk0 l0 A1 n1 c1 l1 A2 n2 c2 rs2 A3 n3 c3 l3 a4 b4 c4 e4 x5 x6 _ hl0 hm0 hc0 hl1 hm1 hc1 hl2 hm2 hM2 hl3 hm3 hc3 hx5 hx6).mono fun e W' ⟨he, bel⟩ => ?_
  subst he
  exact ⟨_, rfl, _, _, _, [], _, [], hW', trodAll_mk1 (shut_bool Try.underlying4 _), (trodAll_cons_mk (Below.trod laidK (by kernel_rfl) (of_decide_eq_true (by kernel_rfl)) k0 bel lt0) (trodAll_cons_mk (Below.trod laidK (by kernel_rfl) (of_decide_eq_true (by kernel_rfl)) k1 bel lt1) (trodAll_cons_mk (Below.trod laidK (by kernel_rfl) (of_decide_eq_true (by kernel_rfl)) k2 bel lt2) (trodAll_cons_mk (Below.trod laidK (by kernel_rfl) (of_decide_eq_true (by kernel_rfl)) k3 bel lt3) (trodAll_cons_mk (Below.trod laidK (by kernel_rfl) (of_decide_eq_true (by kernel_rfl)) k4 bel lt4) (trodAll_cons_mk (Below.trod laidK (by kernel_rfl) (of_decide_eq_true (by kernel_rfl)) k5 bel lt5) (trodAll_cons_mk (Below.trod laidK (by kernel_rfl) (of_decide_eq_true (by kernel_rfl)) k6 bel lt6) trodAll_mk0))))))), rfl, bel.frame _, fun h => by cases h⟩

theorem wagonBridges : Rows.WagonBridgesSaid :=
  OpenClaim.holds_of_wide 13 Try.f13 rfl rfl rfl rfl rfl rfl rfl ⟨rfl, rfl, rfl, rfl, rfl⟩ rfl rfl rfl rfl rfl (by kernel_rfl) Try.func13 (by kernel_rfl)
    (of_decide_eq_true (by kernel_rfl)) (by unfold Func.isWrapper; first | (rw [if_pos (by decide +kernel)]; kernel_rfl) | (rw [if_neg (by decide +kernel)]; exact ⟨rfl, rfl⟩))
    (fun os started H enc _ => wagonBridges_lifted os started H enc)
#print axioms wagonBridges
end Go.Proofs.Ytbpmfaibcibleaa

/- The law WagonBears: its walk. (Printed by mk_beaa.py.) -/
import Derived.Test.YtbpmfaibcibleaaLawB
import Derived.Test.YtbpmfaibcibleaaLhpN
import Derived.Test.YtbpmfaibcibleaaBeaP
namespace Go.Proofs.Ytbpmfaibcibleaa
open Go.RowKit Go.Bs Go.Wg Go.Pl Go.Sort
set_option maxRecDepth 100000 in
set_option maxHeartbeats 4000000 in
theorem bears_law (A : Option Addr) (n c : Nat) (h ca em re ax dk : Int) (l : List Int) (T : Option Addr) (m cT : Nat) (ts : List Th) (R : Option Addr) (k cR : Nat) (rs : List RwV) (x y : Int) (w : World) (hn : l.length = n) (hn0 : n ≤ 9223372036854775807) (hd : Cells w A 1 Go.Bs.encI l) (hm : ts.length = m) (hm0 : m ≤ 9223372036854775807) (ht : Cells w T 4 Th.enc ts) (hk : rs.length = k) (hk0 : k ≤ 9223372036854775807) (hM : RwM w R rs) (hx0 : 0 ≤ x ∧ x ≤ 255) (hy0 : 0 ≤ y ∧ y ≤ 65535) :
    Calls Try.prog 6 #[.agg #[.slice A n c, .int .i64 h, .int .i64 ca, .int .i64 em, .int .i64 re, .int .i64 ax, .int .i64 dk], .slice T m cT, .slice R k cR, .int .u8 x, .int .u16 y] w fun e w' => e = .returned (.bool true) ∧ Below w.heap.size w w' := by
  subst hn hm hk
  have CV := Lib.hid (fun V (hV : Below w.heap.size w V) => validC A c h ca em re ax dk l T cT ts V hn0 hm0 (hd.ext hV) (ht.ext hV))
  have CCu := Lib.hid (fun V (hV : Below w.heap.size w V) => cut_any R rs.length cR rs V rfl (by omega) (hM.hdr.ext hV))
  generalize hb1 : decide (checkE ⟨l, h, ca, em, re, ax, dk⟩ ts = 0) = b1 at *
  generalize hb2 : cutB rs.length (rows rs) = b2 at *
  have Hb1 := Lib.hid hb1
  have Hb2 := Lib.hid hb2
  have Hd := Lib.hid hd
  have Ht := Lib.hid ht
  have HMM := Lib.hid hM
  clear hb1 hb2 hd ht hM
  have hb := ext_alloc w (.cells #[.slice A l.length c, .int .i64 h, .int .i64 ca, .int .i64 em, .int .i64 re, .int .i64 ax, .int .i64 dk] 37)
  have hP := Blk.new w 37 [.slice A l.length c, .int .i64 h, .int .i64 ca, .int .i64 em, .int .i64 re, .int .i64 ax, .int .i64 dk]
  go_enter Try.func6, Try.ntmps6
  go_upto_region 1 with fail
  change Blk (w.alloc (.cells #[.slice A l.length c, .int .i64 h, .int .i64 ca, .int .i64 em, .int .i64 re, .int .i64 ax, .int .i64 dk] 37)) _ _ _ at hP
  change Below w.heap.size w (w.alloc (.cells #[.slice A l.length c, .int .i64 h, .int .i64 ca, .int .i64 em, .int .i64 re, .int .i64 ax, .int .i64 dk] 37)) at hb
  generalize w.alloc (.cells #[.slice A l.length c, .int .i64 h, .int .i64 ca, .int .i64 em, .int .i64 re, .int .i64 ax, .int .i64 dk] 37) = W0 at *
  have q0 : W0.cell? ⟨w.heap.size, 0, none⟩ = _ := hP.cell rfl
  have q1 : W0.cell? ⟨w.heap.size, 1, none⟩ = _ := hP.cell rfl
  have q2 : W0.cell? ⟨w.heap.size, 2, none⟩ = _ := hP.cell rfl
  have q3 : W0.cell? ⟨w.heap.size, 3, none⟩ = _ := hP.cell rfl
  have q4 : W0.cell? ⟨w.heap.size, 4, none⟩ = _ := hP.cell rfl
  have q5 : W0.cell? ⟨w.heap.size, 5, none⟩ = _ := hP.cell rfl
  have q6 : W0.cell? ⟨w.heap.size, 6, none⟩ = _ := hP.cell rfl
  go_wp2_with fail
  refine (CV.out _ hb).mono ?_; rintro e W1 ⟨rfl, hx⟩
  replace hb := ext_trans hb hx
  replace hP := hP.ext hx
  clear hx CV
  clear q0 q1 q2 q3 q4 q5 q6
  cases b1
  · go_wp2_with fail
    refine (awake_any _).mono ?_; rintro e Wz ⟨rfl, hx⟩
    replace hb := ext_trans hb hx
    go_wp2
    go_ret
    exact ⟨rfl, hb⟩
  have h0 := of_decide_eq_true Hb1.out
  go_wp2_with fail
  refine (CCu.out _ hb).mono ?_; rintro e W2 ⟨rfl, rfl⟩
  clear CCu
  cases b2
  · go_wp2_with fail
    refine (awake_any _).mono ?_; rintro e Wz ⟨rfl, hx⟩
    replace hb := ext_trans hb hx
    go_wp2
    go_ret
    exact ⟨rfl, hb⟩
  obtain ⟨hr10, hr20, hrF⟩ := cut_rows Hb2.out rfl
  obtain ⟨hlo, h14, hok⟩ := checkE_zero.1 h0
  have hlm := hlo.many
  simp only at hlm
  have hrl : ∀ x ∈ rs, x.r.length ≤ 1000000000 := fun x hx => by have := hr20 x hx; omega
  have CL := Lib.hid (fun V (hV : Below w.heap.size w V) => lorryC A c h ca em re ax dk l V (by omega) (Hd.out.ext hV))
  have CTh := Lib.hid (fun V (T1 : Option Addr) (e1 : Nat) (us : List Th) (hu : us.length = ts.length) (h7 : Cells V T1 4 Th.enc us) => thingsC T1 e1 us V (by omega) h7)
  have CLa := Lib.hid (fun V (hV : Below w.heap.size w V) => lanesC R cR rs V (by omega) (HMM.out.ext hV) hrl)
  have CR := Lib.hid (fun V (A1 : Option Addr) (d1 : Nat) (T1 : Option Addr) (e1 : Nat) (us : List Th) (hu : us.length = ts.length) (R1 : Option Addr) (f1 : Nat) (r1 : List RwV) (h8 : rows r1 = rows rs) (h5 : r1.length = rs.length) (h6 : Cells V A1 1 Go.Bs.encI l) (h7 : Cells V T1 4 Th.enc us) (hM1 : RwM V R1 r1) => rightC A1 d1 h ca em re ax dk l T1 e1 us R1 f1 r1 (rows rs) V (by omega) (by omega) (by omega) (flat_of_rows h8 (by omega)) h6 h7 hM1 h8)
  have CAx := Lib.hid (fun V (A1 : Option Addr) (d1 : Nat) (T1 : Option Addr) (e1 : Nat) (us : List Th) (hu : us.length = ts.length) (R1 : Option Addr) (f1 : Nat) (r1 : List RwV) (h8 : rows r1 = rows rs) (h5 : r1.length = rs.length) (h6 : Cells V A1 1 Go.Bs.encI l) (h7 : Cells V T1 4 Th.enc us) (hM1 : RwM V R1 r1) => axlesC A1 d1 h ca em re ax dk l T1 e1 us R1 f1 r1 (rows rs) V (by omega) (by omega) (by omega) (flat_of_rows h8 (by omega)) h6 h7 hM1 h8)
  clear hr10 hr20 hrF hrl
  have q0 : W1.cell? ⟨w.heap.size, 0, none⟩ = _ := hP.cell rfl
  have q1 : W1.cell? ⟨w.heap.size, 1, none⟩ = _ := hP.cell rfl
  have q2 : W1.cell? ⟨w.heap.size, 2, none⟩ = _ := hP.cell rfl
  have q3 : W1.cell? ⟨w.heap.size, 3, none⟩ = _ := hP.cell rfl
  have q4 : W1.cell? ⟨w.heap.size, 4, none⟩ = _ := hP.cell rfl
  have q5 : W1.cell? ⟨w.heap.size, 5, none⟩ = _ := hP.cell rfl
  have q6 : W1.cell? ⟨w.heap.size, 6, none⟩ = _ := hP.cell rfl
  go_wp2_with fail
  refine (CL.out _ hb).mono ?_; rintro e V1 ⟨⟨A1, d1, rfl, hA1⟩, hx⟩
  replace hb := ext_trans hb hx
  replace hP := hP.ext hx
  clear hx
  clear q0 q1 q2 q3 q4 q5 q6
  go_wp2_with fail
  refine (CTh.out _ T cT ts rfl (Ht.out.ext hb)).mono ?_; rintro e V2 ⟨⟨T1, e1, rfl, hT1⟩, hx⟩
  replace hb := ext_trans hb hx
  replace hP := hP.ext hx
  replace hA1 := hA1.ext hx
  clear hx
  go_wp2_with fail
  refine (CLa.out _ hb).mono ?_; rintro e V3 ⟨⟨R1, f1, r1, rfl, hr1, hR1⟩, hx⟩
  replace hb := ext_trans hb hx
  replace hP := hP.ext hx
  replace hA1 := hA1.ext hx
  replace hT1 := hT1.ext hx
  clear hx
  have hrn : r1.length = rs.length := by rw [← rows_len, hr1, rows_len]
  have CR1 := CR.out V3 A1 d1 T1 e1 ts rfl R1 f1 r1 hr1 hrn hA1 hT1 hR1
  rw [hrn] at CR1
  replace CR1 := Lib.hid CR1
  clear hr1 hrn hA1 hT1 hR1
  generalize hb3 : rightE ⟨l, h, ca, em, re, ax, dk⟩ ts (rows rs) = b3 at *
  have Hb3 := Lib.hid hb3
  clear hb3
  go_wp2_with fail
  refine (CR1.out).mono ?_; rintro e V4 ⟨rfl, hx⟩
  replace hb := ext_trans hb hx
  replace hP := hP.ext hx
  clear hx CR1 CR
  cases b3
  · go_wp2_with fail
    refine (awake_any _).mono ?_; rintro e Wz ⟨rfl, hx⟩
    replace hb := ext_trans hb hx
    go_wp2
    go_ret
    exact ⟨rfl, hb⟩
  have hr : rightB ⟨l, h, ca, em, re, ax, dk⟩ ts (rows rs) = true := by
    have := Hb3.out
    unfold rightE at this
    rw [Bool.and_eq_true] at this
    exact this.2
  have hbd := axRear_bd h0 hr
  have hfl : axFront ⟨l, h, ca, em, re, ax, dk⟩ ts (rows rs) + axRear ⟨l, h, ca, em, re, ax, dk⟩ ts (rows rs) = em + massL ts (upto ts.length) := by
    unfold axFront
    rw [massL_perm (right_iff.1 hr).perm]
    simp only
    omega
  have hml := massL_bd hok (l := upto ts.length) (fun z hz => mem_upto.1 hz)
  rw [upto_len] at hml
  have hem := hlo.empty
  simp only at hem
  have hax : axVal ⟨l, h, ca, em, re, ax, dk⟩ ts (rows rs) = (axFront ⟨l, h, ca, em, re, ax, dk⟩ ts (rows rs), axRear ⟨l, h, ca, em, re, ax, dk⟩ ts (rows rs), holdsB ⟨l, h, ca, em, re, ax, dk⟩ (axFront ⟨l, h, ca, em, re, ax, dk⟩ ts (rows rs)) (axRear ⟨l, h, ca, em, re, ax, dk⟩ ts (rows rs)), 0) := by
    unfold axVal
    rw [if_neg (not_not_intro h0), if_neg (by rw [hr]; simp)]
  have Hbe := Lib.hid (fun (k : Nat) (hk : k < ts.length) => bears_plain h0 hr hk hy0.1)
  have CM := Lib.hid (fun V (hV : Below w.heap.size w V) (A1 : Option Addr) (c1 : Nat) (h5 : Cells V A1 1 Go.Bs.encI (upto ts.length)) => Masses_any T ts.length cT ts A1 ts.length c1 (upto ts.length) V rfl hok (Ht.out.ext hV) (upto_len _) (by omega) (fun z hz => mem_upto.1 hz) h5)
  have q0 : V4.cell? ⟨w.heap.size, 0, none⟩ = _ := hP.cell rfl
  have q1 : V4.cell? ⟨w.heap.size, 1, none⟩ = _ := hP.cell rfl
  have q2 : V4.cell? ⟨w.heap.size, 2, none⟩ = _ := hP.cell rfl
  have q3 : V4.cell? ⟨w.heap.size, 3, none⟩ = _ := hP.cell rfl
  have q4 : V4.cell? ⟨w.heap.size, 4, none⟩ = _ := hP.cell rfl
  have q5 : V4.cell? ⟨w.heap.size, 5, none⟩ = _ := hP.cell rfl
  have q6 : V4.cell? ⟨w.heap.size, 6, none⟩ = _ := hP.cell rfl
  go_wp2_with fail
  refine (CL.out _ hb).mono ?_; rintro e V5 ⟨⟨A1, d1, rfl, hA1⟩, hx⟩
  replace hb := ext_trans hb hx
  replace hP := hP.ext hx
  clear hx
  clear q0 q1 q2 q3 q4 q5 q6
  go_wp2_with fail
  refine (CTh.out _ T cT ts rfl (Ht.out.ext hb)).mono ?_; rintro e V6 ⟨⟨T1, e1, rfl, hT1⟩, hx⟩
  replace hb := ext_trans hb hx
  replace hP := hP.ext hx
  replace hA1 := hA1.ext hx
  clear hx
  go_wp2_with fail
  refine (CLa.out _ hb).mono ?_; rintro e V7 ⟨⟨R1, f1, r1, rfl, hr1, hR1⟩, hx⟩
  replace hb := ext_trans hb hx
  replace hP := hP.ext hx
  replace hA1 := hA1.ext hx
  replace hT1 := hT1.ext hx
  clear hx
  have hrn : r1.length = rs.length := by rw [← rows_len, hr1, rows_len]
  have CAx1 := CAx.out V7 A1 d1 T1 e1 ts rfl R1 f1 r1 hr1 hrn hA1 hT1 hR1
  rw [hrn] at CAx1
  replace CAx1 := Lib.hid CAx1
  clear hr1 hrn hA1 hT1 hR1
  rw [hax] at CAx1
  simp only at CAx1
  generalize axFront ⟨l, h, ca, em, re, ax, dk⟩ ts (rows rs) = fr at *
  generalize axRear ⟨l, h, ca, em, re, ax, dk⟩ ts (rows rs) = rr at *
  generalize massL ts (upto ts.length) = MA at *
  generalize holdsB ⟨l, h, ca, em, re, ax, dk⟩ fr rr = ho at *
  clear hax hr h0 hlo Hb1 Hb2 Hb3
  have Hfl := Lib.hid hfl
  have hfr : -1000000000000 ≤ fr ∧ fr ≤ 1000000000000 := by omega
  clear hfl
  go_wp2_with fail
  refine (CAx1.out).mono ?_; rintro e V8 ⟨rfl, hx⟩
  replace hb := ext_trans hb hx
  replace hP := hP.ext hx
  clear hx CAx1
  go_upto_region 4 with fail
  refine Dr.wp_region_plan 20 [] (.q [0, 1, 2, 3, 4, 5, 6, 7, 8, 9, 10] (.e1 11 (.e1 12 (.q [13, 14, 15, 16, 17, 18, 19] .done)))) (by kernel_rfl) (by kernel_rfl) ?_
  replace hb := hb.drew
  replace hP := hP.drew
  generalize World.drew V8 = V9 at *
  have q0 := Dr.cell0 (hP.cell (i := 0) rfl)
  have q1 := Dr.cell0 (hP.cell (i := 1) rfl)
  have q2 := Dr.cell0 (hP.cell (i := 2) rfl)
  have q3 := Dr.cell0 (hP.cell (i := 3) rfl)
  have q4 := Dr.cell0 (hP.cell (i := 4) rfl)
  have q5 := Dr.cell0 (hP.cell (i := 5) rfl)
  have q6 := Dr.cell0 (hP.cell (i := 6) rfl)
  with_reducible refine Dr.plan_q (l := [_, _, _, _, _, _, _, _, _, _, _]) (by with_unfolding_all exact rfl) (fun K hK => ?_)
  iterate 11 (go_big_quiet_step (fail))
  refine wpQuiet_nil (hK _ ?_); clear hK K
  clear q0 q1 q2 q3 q4 q5 q6
  refine Dr.plan_e rfl (by rfl) (fun K hK => ?_)
  go_wp2_with fail
  refine (NumC ts.length _ (by omega)).mono ?_; rintro e Va ⟨⟨A1, c1, rfl, hA1⟩, hx⟩
  refine hK _ _ (.of hx) ?_; clear hK K
  replace hb := ext_trans hb hx
  replace hP := hP.ext hx
  clear hx
  refine Dr.plan_e rfl (by rfl) (fun K hK => ?_)
  go_wp2_with fail
  refine (CM.out _ hb A1 c1 hA1).mono ?_; rintro e Vb ⟨rfl, rfl⟩
  refine hK _ _ (.refl _ _) ?_; clear hK K
  clear CM hA1
  have hne : (fr + rr != em + MA) = false := by rw [bne_eq_false_iff_eq]; exact Hfl.out
  have hrr : ¬ rr < 0 := by omega
  with_reducible refine Dr.plan_q (l := [_, _, _, _, _, _, _]) (by with_unfolding_all exact rfl) (fun K hK => ?_)
  iterate 7 (go_big_quiet_step (fail))
  refine wpQuiet_nil (hK _ ?_); clear hK K
  refine Dr.plan_end rfl ?_
  by_cases hn : ts.length = 0
  · have hn' : ((ts.length : Int) == 0) = true := by rw [beq_iff_eq]; omega
    have hn2 : (ts.length : Int) = 0 := by omega
    clear hn
    go_wp2_with fail
    refine (awake_any _).mono ?_; rintro e Vc ⟨rfl, hx⟩
    replace hb := ext_trans hb hx
    go_wp2
    go_ret
    exact ⟨rfl, hb⟩
  have hn' : ((ts.length : Int) == 0) = false := by rw [beq_eq_false_iff_ne]; omega
  have hn2 : ¬ (ts.length : Int) = 0 := by omega
  have hPa := hP.lt
  have ho : OwnL Va Va.heap.size 62 4 Th.enc (.slice none 0 0) ([] : List Th) := OwnL.nil
  have htv := Ht.out.ext hb
  go_upto_region 8 with fail
  go_upto_region 9 with (at_builtin; refine app_row Th.enc 38 62 4 32 et38 (by decide) (by decide) th_len th_one rfl _ _ rfl Va.heap.size _ [] rfl ho T ts.length cT ts rfl rfl htv (by simp; omega) (Nat.le_refl _) ?_; intro v1 V1' hown hbv _ _; rw [List.nil_append] at hown)
  obtain ⟨g, cap, rfl, hgb, hgl, -, -, hcg, hfz⟩ := hown.blk th_len (by omega)
  have hbw := ext_trans hb hbv
  replace hP := hP.ext hbv
  clear ho htv hown hbv
  obtain ⟨k, hk, hkn⟩ : ∃ k : Nat, x.tmod (ts.length : Int) = k ∧ k < ts.length := by
    refine ⟨(x.tmod (ts.length : Int)).toNat, ?_, ?_⟩
    · have h2 := Int.tmod_nonneg (ts.length : Int) hx0.1
      omega
    · have h1 := Int.tmod_lt_of_pos x (show (0 : Int) < (ts.length : Int) by omega)
      have h2 := Int.tmod_nonneg (ts.length : Int) hx0.1
      omega
  have hk' : x % (ts.length : Int) = (k : Int) := by rw [← Int.tmod_eq_emod_of_nonneg hx0.1]; exact hk
  have hkn' : (k : Int) < (ts.length : Int) := by omega
  have hk0 : (0 : Int) ≤ (k : Int) := by omega
  obtain ⟨b4, off4, eT, -, -, -, d2, -⟩ := hcg.at4 hkn rfl
  cases eT
  have hms := (hok _ (List.getElem_mem hkn)).mass
  have hpu := hcg.put1 (r := 2) (x' := heav ts[k] y) (u := .int .i64 (min 100000 (ts[k].mass + y))) th_len hkn (by omega) rfl
  have hbe := Hbe.out k hkn
  have hul : (ts.set k (heav ts[k] y)).length = ts.length := List.length_set
  generalize ts.set k (heav ts[k] y) = us at *
  generalize ts[k].mass = ms at *
  rw [show (0 : Nat) + (k * 4 + 2) = k * 4 + 2 by omega] at hpu
  replace d2 : V1'.cell? ⟨g, k * 4 + 2, none⟩ = some (.int .i64 ms) := by rw [show k * 4 + 2 = 0 + k * 4 + 2 by omega]; exact d2
  have hf2 := hfz (k * 4 + 2)
  go_upto_region 10 with fail
  clear hn hn' hn2 hk hk' hne hrr
  have hWs := hb.size
  have hPl := hP.lt
  have hPb : w.heap.size < g := by omega
  go_upto_region 11 with fail
  have hb3 := hbw.trans ((Dr.Bel.store (M := [g]) (w := V1') (p := ⟨g, k * 4 + 2, none⟩) (by simp) (.int .i64 (min 100000 (ms + y)))).old hbw.size (by simp; omega))
  replace hP := hP.other (p := ⟨g, k * 4 + 2, none⟩) (by simp; omega) (.int .i64 (min 100000 (ms + y)))
  clear d2 hf2 hfz hcg hbw hb
  generalize World.setCell V1' ⟨g, k * 4 + 2, none⟩ (.int .i64 (min 100000 (ms + y))) = X0 at *
  have hb := hb3
  clear hb3
  have q0 : X0.cell? ⟨w.heap.size, 0, none⟩ = _ := hP.cell rfl
  have q1 : X0.cell? ⟨w.heap.size, 1, none⟩ = _ := hP.cell rfl
  have q2 : X0.cell? ⟨w.heap.size, 2, none⟩ = _ := hP.cell rfl
  have q3 : X0.cell? ⟨w.heap.size, 3, none⟩ = _ := hP.cell rfl
  have q4 : X0.cell? ⟨w.heap.size, 4, none⟩ = _ := hP.cell rfl
  have q5 : X0.cell? ⟨w.heap.size, 5, none⟩ = _ := hP.cell rfl
  have q6 : X0.cell? ⟨w.heap.size, 6, none⟩ = _ := hP.cell rfl
  go_wp2_with fail
  refine (CL.out _ hb).mono ?_; rintro e X1 ⟨⟨A1, d1, rfl, hA1⟩, hx⟩
  replace hb := ext_trans hb hx
  replace hP := hP.ext hx
  replace hpu := hpu.ext hx
  clear hx
  clear q0 q1 q2 q3 q4 q5 q6
  have CT2 := CTh.out _ (some ⟨g, 0, none⟩) cap us hul hpu
  rw [hul] at CT2
  replace CT2 := Lib.hid CT2
  go_wp2_with fail
  refine (CT2.out).mono ?_; rintro e X2 ⟨⟨T1, e1, rfl, hT1⟩, hx⟩
  replace hb := ext_trans hb hx
  replace hP := hP.ext hx
  replace hA1 := hA1.ext hx
  clear hx CT2 CTh
  go_wp2_with fail
  refine (CLa.out _ hb).mono ?_; rintro e X3 ⟨⟨R1, f1, r1, rfl, hr1, hR1⟩, hx⟩
  replace hb := ext_trans hb hx
  replace hP := hP.ext hx
  replace hA1 := hA1.ext hx
  replace hT1 := hT1.ext hx
  clear hx
  have hrn : r1.length = rs.length := by rw [← rows_len, hr1, rows_len]
  have CAx1 := CAx.out X3 A1 d1 T1 e1 us hul R1 f1 r1 hr1 hrn hA1 hT1 hR1
  rw [hrn, hul] at CAx1
  replace CAx1 := Lib.hid CAx1
  clear hr1 hrn hA1 hT1 hR1
  generalize axVal ⟨l, h, ca, em, re, ax, dk⟩ us (rows rs) = av at *
  obtain ⟨a1, a2, a3, a4⟩ := av
  simp only [Prod.mk.injEq] at hbe CAx1
  have Hbe2 := Lib.hid hbe
  clear hbe Hbe
  go_wp2_with fail
  refine (CAx1.out).mono ?_; rintro e X4 ⟨rfl, hx⟩
  replace hb := ext_trans hb hx
  clear hx CAx1
  rcases Hbe2.out with ⟨rfl, rfl, rfl, rfl⟩ | ⟨rfl, hle⟩
  · clear Hbe2
    go_wp2_with fail
    refine (awake_any _).mono ?_; rintro e Xc ⟨rfl, hx⟩
    replace hb := ext_trans hb hx
    go_wp2
    go_ret
    exact ⟨rfl, hb⟩
  · clear Hbe2
    have hle' : decide (rr ≤ a2) = true := decide_eq_true hle
    go_wp2_with fail
    refine (awake_any _).mono ?_; rintro e Xc ⟨rfl, hx⟩
    replace hb := ext_trans hb hx
    go_wp2
    go_ret
    exact ⟨rfl, hb⟩
end Go.Proofs.Ytbpmfaibcibleaa

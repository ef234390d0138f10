/- The law WagonPacks: its walk. (Printed by mk_pcka.py.) -/
import Derived.Test.YtbpmfaibcibleaaLawA
import Derived.Test.YtbpmfaibcibleaaLhpN
import Derived.Test.YtbpmfaibcibleaaPkdB
namespace Go.Proofs.Ytbpmfaibcibleaa
open Go.RowKit Go.Bs Go.Wg Go.Pl Go.Sort
theorem packRes_rows {j : Lo} {ts : List Th} {ld : Bool} (h : checkE j ts = 0) : (packRes j ts ld).1.length ≤ 6 ∧ ∀ l ∈ (packRes j ts ld).1, l.length ≤ 1000 := by
  obtain ⟨hj, h14, -⟩ := checkE_zero.1 h
  unfold packRes
  rw [if_neg (not_not_intro h)]
  cases hp : packL j ts (upto ts.length) ld with
  | none => simp
  | some P =>
    unfold packL at hp
    split at hp
    · obtain ⟨q, -, rfl⟩ := Option.map_eq_some_iff.1 hp
      refine ⟨by have := hj.many; simp only [laid, List.length_map, List.length_range]; omega, fun l hl => ?_⟩
      simp only [laid, List.mem_map] at hl
      obtain ⟨i, -, rfl⟩ := hl
      have h1 := (sortL_perm (needC ts) (Wg.part (upto ts.length) q i)).length_eq
      have h2 : (Wg.part (upto ts.length) q i).length ≤ (upto ts.length).length := by
        unfold Wg.part
        rw [List.length_map]
        exact Nat.le_trans (List.length_filter_le _ _) (by rw [List.length_zip]; omega)
      rw [upto_len] at h2
      omega
    · cases hp
theorem few_any (A : Option Addr) (n c : Nat) (w : World) :
    Calls Try.prog 24 #[.slice A n c] w fun e w' => e = .returned (.bool (decide (n ≤ 9 ∨ 15 ≤ n ∧ n ≤ 17))) ∧ w = w' := by
  rcases (show n ≤ 9 ∨ (¬ n ≤ 9 ∧ ¬ 15 ≤ n) ∨ (¬ n ≤ 9 ∧ 15 ≤ n ∧ n ≤ 17) ∨ (¬ n ≤ 9 ∧ 15 ≤ n ∧ ¬ n ≤ 17) by omega) with h1 | ⟨h1, h2⟩ | ⟨h1, h2, h3⟩ | ⟨h1, h2, h3⟩
  · rw [decide_eq_true (.inl h1)]
    have h1' : (n : Int) ≤ 9 := by omega
    go_enter Try.func24, Try.ntmps24
    go_wp2
    go_ret
    exact ⟨rfl, rfl⟩
  · rw [decide_eq_false (by omega)]
    have h1' : ¬ (n : Int) ≤ 9 := by omega
    have h2' : ¬ (15 : Int) ≤ (n : Int) := by omega
    go_enter Try.func24, Try.ntmps24
    go_wp2
    go_ret
    exact ⟨rfl, rfl⟩
  · rw [decide_eq_true (.inr ⟨h2, h3⟩)]
    have h1' : ¬ (n : Int) ≤ 9 := by omega
    have h2' : (15 : Int) ≤ (n : Int) := by omega
    have h3' : (n : Int) ≤ 17 := by omega
    go_enter Try.func24, Try.ntmps24
    go_wp2
    go_ret
    exact ⟨rfl, rfl⟩
  · rw [decide_eq_false (by omega)]
    have h1' : ¬ (n : Int) ≤ 9 := by omega
    have h2' : (15 : Int) ≤ (n : Int) := by omega
    have h3' : ¬ (n : Int) ≤ 17 := by omega
    go_enter Try.func24, Try.ntmps24
    go_wp2
    go_ret
    exact ⟨rfl, rfl⟩
theorem rows_nil {r : List RwV} (h : rows r = []) : r = [] := by cases r with | nil => rfl | cons a b => simp [rows] at h
set_option maxRecDepth 100000 in
set_option maxHeartbeats 8000000 in
theorem packs_law (A : Option Addr) (n c : Nat) (h ca em re ax dk : Int) (l : List Int) (T : Option Addr) (m cT : Nat) (ts : List Th) (w : World) (hn : l.length = n) (hn0 : n ≤ 9223372036854775807) (hd : Cells w A 1 Go.Bs.encI l) (hm : ts.length = m) (hm0 : m ≤ 9223372036854775807) (ht : Cells w T 4 Th.enc ts) :
    Calls Try.prog 5 #[.agg #[.slice A n c, .int .i64 h, .int .i64 ca, .int .i64 em, .int .i64 re, .int .i64 ax, .int .i64 dk], .slice T m cT] w fun e w' => e = .returned (.bool true) ∧ Below w.heap.size w w' := by
  subst hn hm
  have CT := Lib.hid (fun V => Thin_any A l.length c h ca em re ax dk V)
  have CW := Lib.hid (fun V => few_any T ts.length cT V)
  generalize hb1 : decide (l.length ≤ 10) = b1 at *
  generalize hb2 : decide (ts.length ≤ 9 ∨ 15 ≤ ts.length ∧ ts.length ≤ 17) = b2 at *
  have Hb1 := Lib.hid hb1
  have Hb2 := Lib.hid hb2
  have Hd := Lib.hid hd
  have Ht := Lib.hid ht
  clear hb1 hb2 hd ht
  have hb := ext_alloc w (.cells #[.slice A l.length c, .int .i64 h, .int .i64 ca, .int .i64 em, .int .i64 re, .int .i64 ax, .int .i64 dk] 37)
  have hP := Blk.new w 37 [.slice A l.length c, .int .i64 h, .int .i64 ca, .int .i64 em, .int .i64 re, .int .i64 ax, .int .i64 dk]
  go_enter Try.func5, Try.ntmps5
  go_upto_region 1 with fail
  change Blk (w.alloc (.cells #[.slice A l.length c, .int .i64 h, .int .i64 ca, .int .i64 em, .int .i64 re, .int .i64 ax, .int .i64 dk] 37)) _ _ _ at hP
  change Below w.heap.size w (w.alloc (.cells #[.slice A l.length c, .int .i64 h, .int .i64 ca, .int .i64 em, .int .i64 re, .int .i64 ax, .int .i64 dk] 37)) at hb
  generalize w.alloc (.cells #[.slice A l.length c, .int .i64 h, .int .i64 ca, .int .i64 em, .int .i64 re, .int .i64 ax, .int .i64 dk] 37) = W0 at *
  have q0 : W0.cell? ⟨w.heap.size, 0, none⟩ = _ := hP.cell rfl
  have q1 : W0.cell? ⟨w.heap.size, 1, none⟩ = _ := hP.cell rfl
  have q2 : W0.cell? ⟨w.heap.size, 2, none⟩ = _ := hP.cell rfl
  have q3 : W0.cell? ⟨w.heap.size, 3, none⟩ = _ := hP.cell rfl
  have q4 : W0.cell? ⟨w.heap.size, 4, none⟩ = _ := hP.cell rfl
  have q5 : W0.cell? ⟨w.heap.size, 5, none⟩ = _ := hP.cell rfl
  have q6 : W0.cell? ⟨w.heap.size, 6, none⟩ = _ := hP.cell rfl
  go_wp2_with fail
  refine (CT.out _).mono ?_; rintro e W1 ⟨rfl, hx⟩
  replace hb := ext_trans hb hx
  replace hP := hP.ext hx
  clear hx CT
  clear q0 q1 q2 q3 q4 q5 q6
  cases b1
  · go_wp2_with fail
    refine (awake_any _).mono ?_; rintro e Wz ⟨rfl, hx⟩
    replace hb := ext_trans hb hx
    go_wp2
    go_ret
    exact ⟨rfl, hb⟩
  go_wp2_with fail
  refine (CW.out _).mono ?_; rintro e W2 ⟨rfl, rfl⟩
  clear CW
  cases b2
  · go_wp2_with fail
    refine (awake_any _).mono ?_; rintro e Wz ⟨rfl, hx⟩
    replace hb := ext_trans hb hx
    go_wp2
    go_ret
    exact ⟨rfl, hb⟩
  have h10 := of_decide_eq_true Hb1.out
  have hfew := of_decide_eq_true Hb2.out
  have hm17 : ts.length ≤ 17 := by omega
  clear Hb1 Hb2
  have CL := Lib.hid (fun V (hV : Below w.heap.size w V) => lorryC A c h ca em re ax dk l V (by omega) (Hd.out.ext hV))
  have CTh := Lib.hid (fun V (hV : Below w.heap.size w V) => thingsC T cT ts V (by omega) (Ht.out.ext hV))
  have CF := Lib.hid (fun V (hV : Below w.heap.size w V) => Fault_any A l.length c h ca em re ax dk l T ts.length cT ts V rfl (by omega) (Hd.out.ext hV) rfl (by omega) (Ht.out.ext hV))
  have CPa := Lib.hid (fun V (A1 : Option Addr) (d1 : Nat) (T1 : Option Addr) (e1 : Nat) (h6 : Cells V A1 1 Go.Bs.encI l) (h7 : Cells V T1 4 Th.enc ts) => Pack_any ⟨⟨⟨l, h, ca, em, re, ax, dk⟩, A1, d1⟩, T1, e1⟩ ts V (by simp only; omega) (by omega) h6 h7)
  have CLo := Lib.hid (fun V (A1 : Option Addr) (d1 : Nat) (T1 : Option Addr) (e1 : Nat) (h6 : Cells V A1 1 Go.Bs.encI l) (h7 : Cells V T1 4 Th.enc ts) => Load_any ⟨⟨⟨l, h, ca, em, re, ax, dk⟩, A1, d1⟩, T1, e1⟩ ts V (by simp only; omega) (by omega) h6 h7)
  unfold LoV.val at CPa CLo
  unfold PcR at CPa CLo
  simp only at CPa CLo
  have q0 : W1.cell? ⟨w.heap.size, 0, none⟩ = _ := hP.cell rfl
  have q1 : W1.cell? ⟨w.heap.size, 1, none⟩ = _ := hP.cell rfl
  have q2 : W1.cell? ⟨w.heap.size, 2, none⟩ = _ := hP.cell rfl
  have q3 : W1.cell? ⟨w.heap.size, 3, none⟩ = _ := hP.cell rfl
  have q4 : W1.cell? ⟨w.heap.size, 4, none⟩ = _ := hP.cell rfl
  have q5 : W1.cell? ⟨w.heap.size, 5, none⟩ = _ := hP.cell rfl
  have q6 : W1.cell? ⟨w.heap.size, 6, none⟩ = _ := hP.cell rfl
  go_wp2_with fail
  refine (CL.out _ hb).mono ?_; rintro e V1 ⟨⟨A1, d1, rfl, hA1⟩, hx⟩
  replace hb := ext_trans hb hx
  replace hP := hP.ext hx
  clear hx
  clear q0 q1 q2 q3 q4 q5 q6
  go_wp2_with fail
  refine (CTh.out _ hb).mono ?_; rintro e V2 ⟨⟨T1, e1, rfl, hT1⟩, hx⟩
  replace hb := ext_trans hb hx
  replace hP := hP.ext hx
  replace hA1 := hA1.ext hx
  clear hx
  go_wp2_with fail
  refine (CPa.out _ A1 d1 T1 e1 hA1 hT1).mono ?_; rintro e V3 ⟨hx, v1, rfl, ⟨Ap0, cp0, rp0, rfl, hrp0, hMp0, -, -⟩⟩
  replace hb := ext_trans hb hx
  replace hP := hP.ext hx
  clear hx hA1 hT1 CPa
  have q0 : V3.cell? ⟨w.heap.size, 0, none⟩ = _ := hP.cell rfl
  have q1 : V3.cell? ⟨w.heap.size, 1, none⟩ = _ := hP.cell rfl
  have q2 : V3.cell? ⟨w.heap.size, 2, none⟩ = _ := hP.cell rfl
  have q3 : V3.cell? ⟨w.heap.size, 3, none⟩ = _ := hP.cell rfl
  have q4 : V3.cell? ⟨w.heap.size, 4, none⟩ = _ := hP.cell rfl
  have q5 : V3.cell? ⟨w.heap.size, 5, none⟩ = _ := hP.cell rfl
  have q6 : V3.cell? ⟨w.heap.size, 6, none⟩ = _ := hP.cell rfl
  go_wp2_with fail
  refine (CL.out _ hb).mono ?_; rintro e V4 ⟨⟨A1, d1, rfl, hA1⟩, hx⟩
  replace hb := ext_trans hb hx
  replace hP := hP.ext hx
  replace hMp0 := hMp0.ext hx
  clear hx CL
  clear q0 q1 q2 q3 q4 q5 q6
  go_wp2_with fail
  refine (CTh.out _ hb).mono ?_; rintro e V5 ⟨⟨T1, e1, rfl, hT1⟩, hx⟩
  replace hb := ext_trans hb hx
  replace hP := hP.ext hx
  replace hA1 := hA1.ext hx
  replace hMp0 := hMp0.ext hx
  clear hx CTh
  go_wp2_with fail
  refine (CLo.out _ A1 d1 T1 e1 hA1 hT1).mono ?_; rintro e V6 ⟨hx, v1, rfl, ⟨Ap1, cp1, rp1, rfl, hrp1, hMp1, -, -⟩⟩
  replace hb := ext_trans hb hx
  replace hP := hP.ext hx
  replace hMp0 := hMp0.ext hx
  clear hx hA1 hT1 CLo
  have q0 : V6.cell? ⟨w.heap.size, 0, none⟩ = _ := hP.cell rfl
  have q1 : V6.cell? ⟨w.heap.size, 1, none⟩ = _ := hP.cell rfl
  have q2 : V6.cell? ⟨w.heap.size, 2, none⟩ = _ := hP.cell rfl
  have q3 : V6.cell? ⟨w.heap.size, 3, none⟩ = _ := hP.cell rfl
  have q4 : V6.cell? ⟨w.heap.size, 4, none⟩ = _ := hP.cell rfl
  have q5 : V6.cell? ⟨w.heap.size, 5, none⟩ = _ := hP.cell rfl
  have q6 : V6.cell? ⟨w.heap.size, 6, none⟩ = _ := hP.cell rfl
  go_wp2_with fail
  refine (CF.out _ hb).mono ?_; rintro e V7 ⟨rfl, hx⟩
  replace hb := ext_trans hb hx
  replace hP := hP.ext hx
  replace hMp0 := hMp0.ext hx
  replace hMp1 := hMp1.ext hx
  clear hx CF
  clear q0 q1 q2 q3 q4 q5 q6
  by_cases h0 : checkE ⟨l, h, ca, em, re, ax, dk⟩ ts = 0
  case neg =>
    have hr0 : packRes ⟨l, h, ca, em, re, ax, dk⟩ ts false = ([], checkE ⟨l, h, ca, em, re, ax, dk⟩ ts) := by unfold packRes; rw [if_pos h0]
    have hr1 : packRes ⟨l, h, ca, em, re, ax, dk⟩ ts true = ([], checkE ⟨l, h, ca, em, re, ax, dk⟩ ts) := by unfold packRes; rw [if_pos h0]
    rw [hr0] at hrp0 ⊢
    rw [hr1] at hrp1 ⊢
    obtain rfl := rows_nil hrp0
    obtain rfl := rows_nil hrp1
    have h00 := bne_iff_ne.2 h0
    simp only [List.length_nil]
    clear hr0 hr1 hrp0 hrp1 hMp0 hMp1
    generalize checkE ⟨l, h, ca, em, re, ax, dk⟩ ts = ce at *
    clear h0
    go_wp2_with fail
    refine (awake_any _).mono ?_; rintro e Wz ⟨rfl, hx⟩
    replace hb := ext_trans hb hx
    go_wp2
    go_ret
    exact ⟨rfl, hb⟩
  case pos =>
  obtain ⟨hlo, h14, hok⟩ := checkE_zero.1 h0
  have hin : InR ts.length (upto ts.length) := fun z hz => mem_upto.1 hz
  have CP := Lib.hid (fun V (hV : Below w.heap.size w V) (B : Option Addr) (cB : Nat) (ld : Bool) (hB : Cells V B 1 Go.Bs.encI (upto ts.length)) => PackedR_any A l.length c h ca em re ax dk l T ts.length cT ts B ts.length cB (upto ts.length) ld V rfl hlo rfl hok (upto_len _) (by omega) hin (Hd.out.ext hV) (Ht.out.ext hV) hB)
  have R0 := packRes_rows (ts := ts) (ld := false) h0
  have R1 := packRes_rows (ts := ts) (ld := true) h0
  have E0 : packRes ⟨l, h, ca, em, re, ax, dk⟩ ts false = match packL ⟨l, h, ca, em, re, ax, dk⟩ ts (upto ts.length) false with | none => ([], 7) | some P => (P, 0) := by
    unfold packRes
    rw [if_neg (not_not_intro h0)]
    generalize packL _ _ _ _ = zz
    cases zz <;> rfl
  have E1 : packRes ⟨l, h, ca, em, re, ax, dk⟩ ts true = match packL ⟨l, h, ca, em, re, ax, dk⟩ ts (upto ts.length) true with | none => ([], 7) | some P => (P, 0) := by
    unfold packRes
    rw [if_neg (not_not_intro h0)]
    generalize packL _ _ _ _ = zz
    cases zz <;> rfl
  have CP0 := Lib.hid (fun V hV B cB hB => CP.out V hV B cB false hB)
  have CP1 := Lib.hid (fun V hV B cB hB => CP.out V hV B cB true hB)
  unfold PdR at CP0 CP1
  rw [h0]
  generalize packRes ⟨l, h, ca, em, re, ax, dk⟩ ts false = p0 at *
  generalize packRes ⟨l, h, ca, em, re, ax, dk⟩ ts true = p1 at *
  generalize packL ⟨l, h, ca, em, re, ax, dk⟩ ts (upto ts.length) false = x0 at *
  generalize packL ⟨l, h, ca, em, re, ax, dk⟩ ts (upto ts.length) true = x1 at *
  subst E0 E1
  clear h0 hlo hok hin CP
  have h00 : ((0 : Int) != 0) = false := rfl
  cases x0 with
  | none =>
    obtain rfl := rows_nil hrp0
    simp only [List.length_nil]
    cases x1 with
    | none =>
      obtain rfl := rows_nil hrp1
      simp only [List.length_nil]
      clear hMp0 hrp0
      clear hMp1 hrp1
      clear R0 R1
      go_upto_region 8 with fail
      refine Dr.wp_region_plan 11 [] (.q [0, 1, 2, 3] (.e1 4 (.e1 5 (.q [6, 7, 8, 9, 10] .done)))) (by kernel_rfl) (by kernel_rfl) ?_
      replace hb := hb.drew
      replace hP := hP.drew
      generalize World.drew V7 = Y0 at *
      have q0 := Dr.cell0 (hP.cell (i := 0) rfl)
      have q1 := Dr.cell0 (hP.cell (i := 1) rfl)
      have q2 := Dr.cell0 (hP.cell (i := 2) rfl)
      have q3 := Dr.cell0 (hP.cell (i := 3) rfl)
      have q4 := Dr.cell0 (hP.cell (i := 4) rfl)
      have q5 := Dr.cell0 (hP.cell (i := 5) rfl)
      have q6 := Dr.cell0 (hP.cell (i := 6) rfl)
      with_reducible refine Dr.plan_q (l := [_, _, _, _]) (by with_unfolding_all exact rfl) (fun K hK => ?_)
      iterate 4 (go_big_quiet_step (fail))
      refine wpQuiet_nil (hK _ ?_); clear hK K
      clear q0 q1 q2 q3 q4 q5 q6
      refine Dr.plan_e rfl (by rfl) (fun K hK => ?_)
      go_wp2_with fail
      refine (NumC ts.length _ (by omega)).mono ?_; rintro e N0 ⟨⟨B0, b0, rfl, hB0⟩, hx⟩
      refine hK _ _ (.of hx) ?_; clear hK K
      replace hb := ext_trans hb hx
      replace hP := hP.ext hx
      clear hx
      refine Dr.plan_e rfl (by rfl) (fun K hK => ?_)
      go_wp2_with fail
      refine (CP0.out _ hb B0 b0 hB0).mono ?_; rintro e Z0 ⟨hx, rfl⟩
      refine hK _ _ (.of hx) ?_; clear hK K
      replace hb := ext_trans hb hx
      replace hP := hP.ext hx
      clear hx hB0 CP0
      with_reducible refine Dr.plan_q (l := [_, _, _, _, _]) (by with_unfolding_all exact rfl) (fun K hK => ?_)
      iterate 5 (go_big_quiet_step (fail))
      refine wpQuiet_nil (hK _ ?_); clear hK K
      refine Dr.plan_end rfl ?_
      go_upto_region 9 with fail
      refine Dr.wp_region_plan 11 [] (.q [0, 1, 2, 3] (.e1 4 (.e1 5 (.q [6, 7, 8, 9, 10] .done)))) (by kernel_rfl) (by kernel_rfl) ?_
      replace hb := hb.drew
      replace hP := hP.drew
      generalize World.drew Z0 = Y1 at *
      have q0 := Dr.cell0 (hP.cell (i := 0) rfl)
      have q1 := Dr.cell0 (hP.cell (i := 1) rfl)
      have q2 := Dr.cell0 (hP.cell (i := 2) rfl)
      have q3 := Dr.cell0 (hP.cell (i := 3) rfl)
      have q4 := Dr.cell0 (hP.cell (i := 4) rfl)
      have q5 := Dr.cell0 (hP.cell (i := 5) rfl)
      have q6 := Dr.cell0 (hP.cell (i := 6) rfl)
      with_reducible refine Dr.plan_q (l := [_, _, _, _]) (by with_unfolding_all exact rfl) (fun K hK => ?_)
      iterate 4 (go_big_quiet_step (fail))
      refine wpQuiet_nil (hK _ ?_); clear hK K
      clear q0 q1 q2 q3 q4 q5 q6
      refine Dr.plan_e rfl (by rfl) (fun K hK => ?_)
      go_wp2_with fail
      refine (NumC ts.length _ (by omega)).mono ?_; rintro e N1 ⟨⟨B1, b1, rfl, hB1⟩, hx⟩
      refine hK _ _ (.of hx) ?_; clear hK K
      replace hb := ext_trans hb hx
      replace hP := hP.ext hx
      clear hx
      refine Dr.plan_e rfl (by rfl) (fun K hK => ?_)
      go_wp2_with fail
      refine (CP1.out _ hb B1 b1 hB1).mono ?_; rintro e Z1 ⟨hx, rfl⟩
      refine hK _ _ (.of hx) ?_; clear hK K
      replace hb := ext_trans hb hx
      replace hP := hP.ext hx
      clear hx hB1 CP1
      with_reducible refine Dr.plan_q (l := [_, _, _, _, _]) (by with_unfolding_all exact rfl) (fun K hK => ?_)
      iterate 5 (go_big_quiet_step (fail))
      refine wpQuiet_nil (hK _ ?_); clear hK K
      refine Dr.plan_end rfl ?_
      clear hP
      go_wp2_with fail
      refine (awake_any _).mono ?_; rintro e Wz ⟨rfl, hx⟩
      replace hb := ext_trans hb hx
      go_wp2
      go_ret
      exact ⟨rfl, hb⟩
    | some P1 =>
      clear hMp0 hrp0
      have hl1 : rp1.length ≤ 6 := by rw [← rows_len, hrp1]; exact R1.1
      have hq1 : ∀ r ∈ rp1, r.r.length ≤ 1000 := fun r hr => R1.2 r.r (by rw [← hrp1]; exact List.mem_map.2 ⟨r, hr, rfl⟩)
      clear R0 R1
      go_upto_region 8 with fail
      refine Dr.wp_region_plan 11 [] (.q [0, 1, 2, 3] (.e1 4 (.e1 5 (.q [6, 7, 8, 9, 10] .done)))) (by kernel_rfl) (by kernel_rfl) ?_
      replace hb := hb.drew
      replace hP := hP.drew
      replace hMp1 := hMp1.ext (ext_drew _)
      generalize World.drew V7 = Y0 at *
      have q0 := Dr.cell0 (hP.cell (i := 0) rfl)
      have q1 := Dr.cell0 (hP.cell (i := 1) rfl)
      have q2 := Dr.cell0 (hP.cell (i := 2) rfl)
      have q3 := Dr.cell0 (hP.cell (i := 3) rfl)
      have q4 := Dr.cell0 (hP.cell (i := 4) rfl)
      have q5 := Dr.cell0 (hP.cell (i := 5) rfl)
      have q6 := Dr.cell0 (hP.cell (i := 6) rfl)
      with_reducible refine Dr.plan_q (l := [_, _, _, _]) (by with_unfolding_all exact rfl) (fun K hK => ?_)
      iterate 4 (go_big_quiet_step (fail))
      refine wpQuiet_nil (hK _ ?_); clear hK K
      clear q0 q1 q2 q3 q4 q5 q6
      refine Dr.plan_e rfl (by rfl) (fun K hK => ?_)
      go_wp2_with fail
      refine (NumC ts.length _ (by omega)).mono ?_; rintro e N0 ⟨⟨B0, b0, rfl, hB0⟩, hx⟩
      refine hK _ _ (.of hx) ?_; clear hK K
      replace hb := ext_trans hb hx
      replace hP := hP.ext hx
      replace hMp1 := hMp1.ext hx
      clear hx
      refine Dr.plan_e rfl (by rfl) (fun K hK => ?_)
      go_wp2_with fail
      refine (CP0.out _ hb B0 b0 hB0).mono ?_; rintro e Z0 ⟨hx, rfl⟩
      refine hK _ _ (.of hx) ?_; clear hK K
      replace hb := ext_trans hb hx
      replace hP := hP.ext hx
      replace hMp1 := hMp1.ext hx
      clear hx hB0 CP0
      with_reducible refine Dr.plan_q (l := [_, _, _, _, _]) (by with_unfolding_all exact rfl) (fun K hK => ?_)
      iterate 5 (go_big_quiet_step (fail))
      refine wpQuiet_nil (hK _ ?_); clear hK K
      refine Dr.plan_end rfl ?_
      go_upto_region 9 with fail
      refine Dr.wp_region_plan 11 [] (.q [0, 1, 2, 3] (.e1 4 (.e1 5 (.q [6, 7, 8, 9, 10] .done)))) (by kernel_rfl) (by kernel_rfl) ?_
      replace hb := hb.drew
      replace hP := hP.drew
      replace hMp1 := hMp1.ext (ext_drew _)
      generalize World.drew Z0 = Y1 at *
      have q0 := Dr.cell0 (hP.cell (i := 0) rfl)
      have q1 := Dr.cell0 (hP.cell (i := 1) rfl)
      have q2 := Dr.cell0 (hP.cell (i := 2) rfl)
      have q3 := Dr.cell0 (hP.cell (i := 3) rfl)
      have q4 := Dr.cell0 (hP.cell (i := 4) rfl)
      have q5 := Dr.cell0 (hP.cell (i := 5) rfl)
      have q6 := Dr.cell0 (hP.cell (i := 6) rfl)
      with_reducible refine Dr.plan_q (l := [_, _, _, _]) (by with_unfolding_all exact rfl) (fun K hK => ?_)
      iterate 4 (go_big_quiet_step (fail))
      refine wpQuiet_nil (hK _ ?_); clear hK K
      clear q0 q1 q2 q3 q4 q5 q6
      refine Dr.plan_e rfl (by rfl) (fun K hK => ?_)
      go_wp2_with fail
      refine (NumC ts.length _ (by omega)).mono ?_; rintro e N1 ⟨⟨B1, b1, rfl, hB1⟩, hx⟩
      refine hK _ _ (.of hx) ?_; clear hK K
      replace hb := ext_trans hb hx
      replace hP := hP.ext hx
      replace hMp1 := hMp1.ext hx
      clear hx
      refine Dr.plan_e rfl (by rfl) (fun K hK => ?_)
      go_wp2_with fail
      refine (CP1.out _ hb B1 b1 hB1).mono ?_; rintro e Z1 ⟨hx, Ax1, cx1, rx1, rfl, hrx1, hMx1⟩
      refine hK _ _ (.of hx) ?_; clear hK K
      replace hb := ext_trans hb hx
      replace hP := hP.ext hx
      replace hMp1 := hMp1.ext hx
      clear hx hB1 CP1
      with_reducible refine Dr.plan_q (l := [_, _, _, _, _]) (by with_unfolding_all exact rfl) (fun K hK => ?_)
      iterate 5 (go_big_quiet_step (fail))
      refine wpQuiet_nil (hK _ ?_); clear hK K
      refine Dr.plan_end rfl ?_
      clear hP
      have hlx1 : rx1.length = rp1.length := by rw [← rows_len, hrx1, ← rows_len, hrp1]
      have hqx1 : ∀ r ∈ rx1, r.r.length ≤ 1000 := fun r hr => by
        have h5 : r.r ∈ rows rp1 := by rw [hrp1, ← hrx1]; exact List.mem_map.2 ⟨r, hr, rfl⟩
        obtain ⟨y, hy, e⟩ := List.mem_map.1 h5
        rw [← e]; exact hq1 y hy
      have CS := same_any Ap1 Ax1 rp1.length rx1.length cp1 cx1 rp1 rx1 _ rfl rfl (by omega) (by omega) hMp1 hMx1 (fun r hr => by have := hq1 r hr; omega) (fun r hr => by have := hqx1 r hr; omega)
      rw [decide_eq_true (show rows rp1 = rows rx1 by rw [hrp1, hrx1])] at CS
      replace CS := Lib.hid CS
      clear hlx1 hqx1
      go_wp2_with fail
      refine (CS.out).mono ?_; rintro e S1 ⟨rfl, hx⟩
      replace hb := ext_trans hb hx
      clear hx CS hMp1 hMx1
      go_wp2_with fail
      refine (awake_any _).mono ?_; rintro e Wz ⟨rfl, hx⟩
      replace hb := ext_trans hb hx
      go_wp2
      go_ret
      exact ⟨rfl, hb⟩
  | some P0 =>
    cases x1 with
    | none =>
      obtain rfl := rows_nil hrp1
      simp only [List.length_nil]
      clear hMp1 hrp1
      have hl0 : rp0.length ≤ 6 := by rw [← rows_len, hrp0]; exact R0.1
      have hq0 : ∀ r ∈ rp0, r.r.length ≤ 1000 := fun r hr => R0.2 r.r (by rw [← hrp0]; exact List.mem_map.2 ⟨r, hr, rfl⟩)
      clear R0 R1
      go_upto_region 8 with fail
      refine Dr.wp_region_plan 11 [] (.q [0, 1, 2, 3] (.e1 4 (.e1 5 (.q [6, 7, 8, 9, 10] .done)))) (by kernel_rfl) (by kernel_rfl) ?_
      replace hb := hb.drew
      replace hP := hP.drew
      replace hMp0 := hMp0.ext (ext_drew _)
      generalize World.drew V7 = Y0 at *
      have q0 := Dr.cell0 (hP.cell (i := 0) rfl)
      have q1 := Dr.cell0 (hP.cell (i := 1) rfl)
      have q2 := Dr.cell0 (hP.cell (i := 2) rfl)
      have q3 := Dr.cell0 (hP.cell (i := 3) rfl)
      have q4 := Dr.cell0 (hP.cell (i := 4) rfl)
      have q5 := Dr.cell0 (hP.cell (i := 5) rfl)
      have q6 := Dr.cell0 (hP.cell (i := 6) rfl)
      with_reducible refine Dr.plan_q (l := [_, _, _, _]) (by with_unfolding_all exact rfl) (fun K hK => ?_)
      iterate 4 (go_big_quiet_step (fail))
      refine wpQuiet_nil (hK _ ?_); clear hK K
      clear q0 q1 q2 q3 q4 q5 q6
      refine Dr.plan_e rfl (by rfl) (fun K hK => ?_)
      go_wp2_with fail
      refine (NumC ts.length _ (by omega)).mono ?_; rintro e N0 ⟨⟨B0, b0, rfl, hB0⟩, hx⟩
      refine hK _ _ (.of hx) ?_; clear hK K
      replace hb := ext_trans hb hx
      replace hP := hP.ext hx
      replace hMp0 := hMp0.ext hx
      clear hx
      refine Dr.plan_e rfl (by rfl) (fun K hK => ?_)
      go_wp2_with fail
      refine (CP0.out _ hb B0 b0 hB0).mono ?_; rintro e Z0 ⟨hx, Ax0, cx0, rx0, rfl, hrx0, hMx0⟩
      refine hK _ _ (.of hx) ?_; clear hK K
      replace hb := ext_trans hb hx
      replace hP := hP.ext hx
      replace hMp0 := hMp0.ext hx
      clear hx hB0 CP0
      with_reducible refine Dr.plan_q (l := [_, _, _, _, _]) (by with_unfolding_all exact rfl) (fun K hK => ?_)
      iterate 5 (go_big_quiet_step (fail))
      refine wpQuiet_nil (hK _ ?_); clear hK K
      refine Dr.plan_end rfl ?_
      go_upto_region 9 with fail
      refine Dr.wp_region_plan 11 [] (.q [0, 1, 2, 3] (.e1 4 (.e1 5 (.q [6, 7, 8, 9, 10] .done)))) (by kernel_rfl) (by kernel_rfl) ?_
      replace hb := hb.drew
      replace hP := hP.drew
      replace hMp0 := hMp0.ext (ext_drew _)
      replace hMx0 := hMx0.ext (ext_drew _)
      generalize World.drew Z0 = Y1 at *
      have q0 := Dr.cell0 (hP.cell (i := 0) rfl)
      have q1 := Dr.cell0 (hP.cell (i := 1) rfl)
      have q2 := Dr.cell0 (hP.cell (i := 2) rfl)
      have q3 := Dr.cell0 (hP.cell (i := 3) rfl)
      have q4 := Dr.cell0 (hP.cell (i := 4) rfl)
      have q5 := Dr.cell0 (hP.cell (i := 5) rfl)
      have q6 := Dr.cell0 (hP.cell (i := 6) rfl)
      with_reducible refine Dr.plan_q (l := [_, _, _, _]) (by with_unfolding_all exact rfl) (fun K hK => ?_)
      iterate 4 (go_big_quiet_step (fail))
      refine wpQuiet_nil (hK _ ?_); clear hK K
      clear q0 q1 q2 q3 q4 q5 q6
      refine Dr.plan_e rfl (by rfl) (fun K hK => ?_)
      go_wp2_with fail
      refine (NumC ts.length _ (by omega)).mono ?_; rintro e N1 ⟨⟨B1, b1, rfl, hB1⟩, hx⟩
      refine hK _ _ (.of hx) ?_; clear hK K
      replace hb := ext_trans hb hx
      replace hP := hP.ext hx
      replace hMp0 := hMp0.ext hx
      replace hMx0 := hMx0.ext hx
      clear hx
      refine Dr.plan_e rfl (by rfl) (fun K hK => ?_)
      go_wp2_with fail
      refine (CP1.out _ hb B1 b1 hB1).mono ?_; rintro e Z1 ⟨hx, rfl⟩
      refine hK _ _ (.of hx) ?_; clear hK K
      replace hb := ext_trans hb hx
      replace hP := hP.ext hx
      replace hMp0 := hMp0.ext hx
      replace hMx0 := hMx0.ext hx
      clear hx hB1 CP1
      with_reducible refine Dr.plan_q (l := [_, _, _, _, _]) (by with_unfolding_all exact rfl) (fun K hK => ?_)
      iterate 5 (go_big_quiet_step (fail))
      refine wpQuiet_nil (hK _ ?_); clear hK K
      refine Dr.plan_end rfl ?_
      clear hP
      have hlx0 : rx0.length = rp0.length := by rw [← rows_len, hrx0, ← rows_len, hrp0]
      have hqx0 : ∀ r ∈ rx0, r.r.length ≤ 1000 := fun r hr => by
        have h5 : r.r ∈ rows rp0 := by rw [hrp0, ← hrx0]; exact List.mem_map.2 ⟨r, hr, rfl⟩
        obtain ⟨y, hy, e⟩ := List.mem_map.1 h5
        rw [← e]; exact hq0 y hy
      have CS := same_any Ap0 Ax0 rp0.length rx0.length cp0 cx0 rp0 rx0 _ rfl rfl (by omega) (by omega) hMp0 hMx0 (fun r hr => by have := hq0 r hr; omega) (fun r hr => by have := hqx0 r hr; omega)
      rw [decide_eq_true (show rows rp0 = rows rx0 by rw [hrp0, hrx0])] at CS
      replace CS := Lib.hid CS
      clear hlx0 hqx0
      go_wp2_with fail
      refine (CS.out).mono ?_; rintro e S0 ⟨rfl, hx⟩
      replace hb := ext_trans hb hx
      clear hx CS hMp0 hMx0
      go_wp2_with fail
      refine (awake_any _).mono ?_; rintro e Wz ⟨rfl, hx⟩
      replace hb := ext_trans hb hx
      go_wp2
      go_ret
      exact ⟨rfl, hb⟩
    | some P1 =>
      have hl0 : rp0.length ≤ 6 := by rw [← rows_len, hrp0]; exact R0.1
      have hq0 : ∀ r ∈ rp0, r.r.length ≤ 1000 := fun r hr => R0.2 r.r (by rw [← hrp0]; exact List.mem_map.2 ⟨r, hr, rfl⟩)
      have hl1 : rp1.length ≤ 6 := by rw [← rows_len, hrp1]; exact R1.1
      have hq1 : ∀ r ∈ rp1, r.r.length ≤ 1000 := fun r hr => R1.2 r.r (by rw [← hrp1]; exact List.mem_map.2 ⟨r, hr, rfl⟩)
      clear R0 R1
      go_upto_region 8 with fail
      refine Dr.wp_region_plan 11 [] (.q [0, 1, 2, 3] (.e1 4 (.e1 5 (.q [6, 7, 8, 9, 10] .done)))) (by kernel_rfl) (by kernel_rfl) ?_
      replace hb := hb.drew
      replace hP := hP.drew
      replace hMp0 := hMp0.ext (ext_drew _)
      replace hMp1 := hMp1.ext (ext_drew _)
      generalize World.drew V7 = Y0 at *
      have q0 := Dr.cell0 (hP.cell (i := 0) rfl)
      have q1 := Dr.cell0 (hP.cell (i := 1) rfl)
      have q2 := Dr.cell0 (hP.cell (i := 2) rfl)
      have q3 := Dr.cell0 (hP.cell (i := 3) rfl)
      have q4 := Dr.cell0 (hP.cell (i := 4) rfl)
      have q5 := Dr.cell0 (hP.cell (i := 5) rfl)
      have q6 := Dr.cell0 (hP.cell (i := 6) rfl)
      with_reducible refine Dr.plan_q (l := [_, _, _, _]) (by with_unfolding_all exact rfl) (fun K hK => ?_)
      iterate 4 (go_big_quiet_step (fail))
      refine wpQuiet_nil (hK _ ?_); clear hK K
      clear q0 q1 q2 q3 q4 q5 q6
      refine Dr.plan_e rfl (by rfl) (fun K hK => ?_)
      go_wp2_with fail
      refine (NumC ts.length _ (by omega)).mono ?_; rintro e N0 ⟨⟨B0, b0, rfl, hB0⟩, hx⟩
      refine hK _ _ (.of hx) ?_; clear hK K
      replace hb := ext_trans hb hx
      replace hP := hP.ext hx
      replace hMp0 := hMp0.ext hx
      replace hMp1 := hMp1.ext hx
      clear hx
      refine Dr.plan_e rfl (by rfl) (fun K hK => ?_)
      go_wp2_with fail
      refine (CP0.out _ hb B0 b0 hB0).mono ?_; rintro e Z0 ⟨hx, Ax0, cx0, rx0, rfl, hrx0, hMx0⟩
      refine hK _ _ (.of hx) ?_; clear hK K
      replace hb := ext_trans hb hx
      replace hP := hP.ext hx
      replace hMp0 := hMp0.ext hx
      replace hMp1 := hMp1.ext hx
      clear hx hB0 CP0
      with_reducible refine Dr.plan_q (l := [_, _, _, _, _]) (by with_unfolding_all exact rfl) (fun K hK => ?_)
      iterate 5 (go_big_quiet_step (fail))
      refine wpQuiet_nil (hK _ ?_); clear hK K
      refine Dr.plan_end rfl ?_
      go_upto_region 9 with fail
      refine Dr.wp_region_plan 11 [] (.q [0, 1, 2, 3] (.e1 4 (.e1 5 (.q [6, 7, 8, 9, 10] .done)))) (by kernel_rfl) (by kernel_rfl) ?_
      replace hb := hb.drew
      replace hP := hP.drew
      replace hMp0 := hMp0.ext (ext_drew _)
      replace hMp1 := hMp1.ext (ext_drew _)
      replace hMx0 := hMx0.ext (ext_drew _)
      generalize World.drew Z0 = Y1 at *
      have q0 := Dr.cell0 (hP.cell (i := 0) rfl)
      have q1 := Dr.cell0 (hP.cell (i := 1) rfl)
      have q2 := Dr.cell0 (hP.cell (i := 2) rfl)
      have q3 := Dr.cell0 (hP.cell (i := 3) rfl)
      have q4 := Dr.cell0 (hP.cell (i := 4) rfl)
      have q5 := Dr.cell0 (hP.cell (i := 5) rfl)
      have q6 := Dr.cell0 (hP.cell (i := 6) rfl)
      with_reducible refine Dr.plan_q (l := [_, _, _, _]) (by with_unfolding_all exact rfl) (fun K hK => ?_)
      iterate 4 (go_big_quiet_step (fail))
      refine wpQuiet_nil (hK _ ?_); clear hK K
      clear q0 q1 q2 q3 q4 q5 q6
      refine Dr.plan_e rfl (by rfl) (fun K hK => ?_)
      go_wp2_with fail
      refine (NumC ts.length _ (by omega)).mono ?_; rintro e N1 ⟨⟨B1, b1, rfl, hB1⟩, hx⟩
      refine hK _ _ (.of hx) ?_; clear hK K
      replace hb := ext_trans hb hx
      replace hP := hP.ext hx
      replace hMp0 := hMp0.ext hx
      replace hMp1 := hMp1.ext hx
      replace hMx0 := hMx0.ext hx
      clear hx
      refine Dr.plan_e rfl (by rfl) (fun K hK => ?_)
      go_wp2_with fail
      refine (CP1.out _ hb B1 b1 hB1).mono ?_; rintro e Z1 ⟨hx, Ax1, cx1, rx1, rfl, hrx1, hMx1⟩
      refine hK _ _ (.of hx) ?_; clear hK K
      replace hb := ext_trans hb hx
      replace hP := hP.ext hx
      replace hMp0 := hMp0.ext hx
      replace hMp1 := hMp1.ext hx
      replace hMx0 := hMx0.ext hx
      clear hx hB1 CP1
      with_reducible refine Dr.plan_q (l := [_, _, _, _, _]) (by with_unfolding_all exact rfl) (fun K hK => ?_)
      iterate 5 (go_big_quiet_step (fail))
      refine wpQuiet_nil (hK _ ?_); clear hK K
      refine Dr.plan_end rfl ?_
      clear hP
      have hlx0 : rx0.length = rp0.length := by rw [← rows_len, hrx0, ← rows_len, hrp0]
      have hqx0 : ∀ r ∈ rx0, r.r.length ≤ 1000 := fun r hr => by
        have h5 : r.r ∈ rows rp0 := by rw [hrp0, ← hrx0]; exact List.mem_map.2 ⟨r, hr, rfl⟩
        obtain ⟨y, hy, e⟩ := List.mem_map.1 h5
        rw [← e]; exact hq0 y hy
      have CS := same_any Ap0 Ax0 rp0.length rx0.length cp0 cx0 rp0 rx0 _ rfl rfl (by omega) (by omega) hMp0 hMx0 (fun r hr => by have := hq0 r hr; omega) (fun r hr => by have := hqx0 r hr; omega)
      rw [decide_eq_true (show rows rp0 = rows rx0 by rw [hrp0, hrx0])] at CS
      replace CS := Lib.hid CS
      clear hlx0 hqx0
      go_wp2_with fail
      refine (CS.out).mono ?_; rintro e S0 ⟨rfl, hx⟩
      replace hb := ext_trans hb hx
      replace hMp1 := hMp1.ext hx
      replace hMx1 := hMx1.ext hx
      clear hx CS hMp0 hMx0
      have hlx1 : rx1.length = rp1.length := by rw [← rows_len, hrx1, ← rows_len, hrp1]
      have hqx1 : ∀ r ∈ rx1, r.r.length ≤ 1000 := fun r hr => by
        have h5 : r.r ∈ rows rp1 := by rw [hrp1, ← hrx1]; exact List.mem_map.2 ⟨r, hr, rfl⟩
        obtain ⟨y, hy, e⟩ := List.mem_map.1 h5
        rw [← e]; exact hq1 y hy
      have CS := same_any Ap1 Ax1 rp1.length rx1.length cp1 cx1 rp1 rx1 _ rfl rfl (by omega) (by omega) hMp1 hMx1 (fun r hr => by have := hq1 r hr; omega) (fun r hr => by have := hqx1 r hr; omega)
      rw [decide_eq_true (show rows rp1 = rows rx1 by rw [hrp1, hrx1])] at CS
      replace CS := Lib.hid CS
      clear hlx1 hqx1
      go_wp2_with fail
      refine (CS.out).mono ?_; rintro e S1 ⟨rfl, hx⟩
      replace hb := ext_trans hb hx
      clear hx CS hMp1 hMx1
      go_wp2_with fail
      refine (awake_any _).mono ?_; rintro e Wz ⟨rfl, hx⟩
      replace hb := ext_trans hb hx
      go_wp2
      go_ret
      exact ⟨rfl, hb⟩
end Go.Proofs.Ytbpmfaibcibleaa

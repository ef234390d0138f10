/- Walk: the document's town. -/
import Derived.Test.YtilkoooahoecfaaErnB
namespace Go.Proofs.Ytilkoooahoecfaa.Er
open Go.RowKit Go.Bs Go.Pl Go.Sort Go.Er
theorem opnOk_succ {l : List (Int × Int)} {days : Int} {k : Nat} (h : opnOk l days k) (h1 : 0 ≤ (l.getD k (0, 0)).1 ∧ (l.getD k (0, 0)).1 ≤ (l.getD k (0, 0)).2 ∧ (l.getD k (0, 0)).2 ≤ days - 1) (h2 : 0 < k → (l.getD (k - 1) (0, 0)).2 < (l.getD k (0, 0)).1) : opnOk l days (k + 1) := by
  refine ⟨fun i hi => ?_, fun i hi => ?_⟩
  · by_cases e : i = k
    · rw [e]; exact h1
    · exact h.1 i (by omega)
  · by_cases e : i + 1 = k
    · have := h2 (by omega)
      rw [show k - 1 = i by omega] at this
      rw [e]
      exact this
    · exact h.2 i (by omega)
theorem rivOk_succ {l : List (Int × Int)} {k : Nat} (h : rivOk l k) (h1 : -60 ≤ (l.getD k (0, 0)).1 ∧ (l.getD k (0, 0)).1 ≤ (l.getD k (0, 0)).2 ∧ (l.getD k (0, 0)).2 ≤ 60) : rivOk l (k + 1) := fun i hi => by
  by_cases e : i = k
  · rw [e]; exact h1
  · exact h i (by omega)
theorem at_rng {w : World} {A : Option Addr} {l : List (Int × Int)} {k : Nat} (h : Cells w A 2 encR l) (hk : k < l.length) :
    ∃ b off, A = some ⟨b, off, none⟩ ∧ b < w.heap.size ∧ w.cell? ⟨b, off + k * 2, none⟩ = some (.int .i64 (l.getD k (0, 0)).1) ∧ w.cell? ⟨b, off + k * 2 + 1, none⟩ = some (.int .i64 (l.getD k (0, 0)).2) :=
  Cells.at2 h hk (by simp [encR, hk])
set_option maxRecDepth 100000 in
set_option maxHeartbeats 4000000 in
theorem town_any (v : TwV) (days : Int) (w : World) (hd : 1 ≤ days ∧ days ≤ 60) (hM : TwM w v) :
    Calls Try.prog 23 #[v.val, .int .i64 days] w (Soft (TownOk v.x days) w) := by
  have hx := ext_alloc w (.cells v.enc.toArray 53)
  have hB := Blk.new w 53 v.enc
  have hO := hM.opn.ext hx
  have hV := hM.riv.ext hx
  have hno9 := hM.no
  have hnr9 := hM.nr
  clear hM
  obtain ⟨⟨opn, slo, shi, pay, lot, rent, riv, cold, cut⟩, O, co, R, cr⟩ := v
  unfold TwV.val TwV.enc at *
  simp only at hx hB hO hV hno9 hnr9 ⊢
  generalize hno : opn.length = no at *
  generalize hnr : riv.length = nr at *
  have Hno := Lib.hid hno
  have Hnr := Lib.hid hnr
  clear hno hnr
  go_enter Try.func23, Try.ntmps23
  go_upto_block 0 with fail
  change Blk (w.alloc (.cells #[.slice O no co, .int .i64 slo, .int .i64 shi, .int .i64 pay, .int .i64 lot, .int .i64 rent, .slice R nr cr, .int .i64 cold, .int .i64 cut] 53)) w.heap.size _ _ at hB
  generalize w.alloc (.cells #[.slice O no co, .int .i64 slo, .int .i64 shi, .int .i64 pay, .int .i64 lot, .int .i64 rent, .slice R nr cr, .int .i64 cold, .int .i64 cut] 53) = W1 at *
  have hxw := hx
  have wd : wrap64 (days - 1) = days - 1 := by unfold wrap64; omega
  go_cut [5] from 7 (fun _ wc => Hid (opnOk opn days no) ∧ Below W1.heap.size W1 wc)
  case first =>
    go_wp2
    go_loopw [5] (fun t wr => ∃ k : Nat, t = .int .i64 k ∧ k ≤ no ∧ Hid (opnOk opn days k) ∧ Below W1.heap.size W1 wr) (fun t _ => no - (intOf t).toNat)
    case atStart => exact ⟨0, rfl, by omega, Lib.hid ⟨fun i hi => by omega, fun i hi => by omega⟩, Below.refl _ _⟩
    case round =>
      obtain ⟨k, rfl, hk, Hk, hbr⟩ := hrel
      have hBr := hB.ext hbr
      have c0 : wr.cell? ⟨w.heap.size, 0, none⟩ = _ := hBr.cell (i := 0) rfl
      by_cases hlt : k < no
      · have hk1 : k < opn.length := by rw [Hno.out]; exact hlt
        obtain ⟨b, off, rfl, hbl, r0, r1⟩ := at_rng (hO.ext hbr) hk1
        obtain ⟨x, hxe⟩ : ∃ x, (opn.getD k (0, 0)).1 = x := ⟨_, rfl⟩
        obtain ⟨y, hye⟩ : ∃ x, (opn.getD k (0, 0)).2 = x := ⟨_, rfl⟩
        have Hxy := Lib.hid (⟨hxe, hye⟩ : (opn.getD k (0, 0)).1 = x ∧ (opn.getD k (0, 0)).2 = y)
        rw [hxe] at r0
        rw [hye] at r1
        clear hxe hye
        have hkn : (k : Int) < (no : Int) := by omega
        have hk0 : (0 : Int) ≤ (k : Int) := by omega
        by_cases h0 : k = 0
        · subst h0
          simp only [Nat.zero_mul, Nat.add_zero] at r0 r1
          go_upto_region 4 with fail
          refine Dr.wp_region_plan 29 [] (.q [0, 1, 2, 3, 4, 5, 6] (.e1 7 (.q [8, 9, 10, 11, 12, 13, 14, 15, 16, 17, 18, 19, 20, 21, 22, 23, 24, 25, 26, 27, 28] .done))) (by kernel_rfl) (by kernel_rfl) ?_
          have hbd := hbr.drew
          have hBd := hBr.drew
          have r0 := cell_ext r0 (ext_drew wr)
          have r1 := cell_ext r1 (ext_drew wr)
          clear c0 hbr hBr
          generalize World.drew wr = V at *
          have q0 := Dr.cell0 (hBd.cell (i := 0) rfl)
          have q1 := Dr.cell0 r0
          have q2 := Dr.cell0 r1
          with_reducible refine Dr.plan_q (l := [_, _, _, _, _, _, _]) (by with_unfolding_all exact rfl) (fun K hK => ?_)
          iterate 7 (go_big_quiet_step (fail))
          refine wpQuiet_nil (hK _ ?_); clear hK K
          clear q0 q1 q2
          have CE := Lib.hid (ends_any x y 0 (days - 1) V)
          have Hq := Lib.hid (show endB (x, y) 0 (days - 1) = true → 0 ≤ x ∧ x ≤ y ∧ y ≤ days - 1 from fun h => of_decide_eq_true h)
          generalize endB (x, y) 0 (days - 1) = q at *
          refine Dr.plan_e rfl (by rfl) (fun K hK => ?_)
          go_wp2_with fail
          refine CE.out.mono ?_; rintro e V1 ⟨rfl, hb1⟩
          refine hK _ _ (.of hb1) ?_; clear hK K CE
          have hB1 := hBd.ext hb1
          have hbf := ext_trans hbd hb1
          have q0 := Dr.cell0 (hB1.cell (i := 0) rfl)
          cases q
          · with_reducible refine Dr.plan_q (l := [_, _, _, _, _, _, _, _, _, _, _, _, _, _, _, _, _, _, _, _, _]) (by with_unfolding_all exact rfl) (fun K hK => ?_)
            iterate 21 (go_big_quiet_step (fail))
            refine wpQuiet_nil (hK _ ?_); clear hK K
            refine Dr.plan_end rfl ?_
            try go_frame
            go_wp2
            go_ret
            exact Soft.no (ext_trans hxw hbf)
          · with_reducible refine Dr.plan_q (l := [_, _, _, _, _, _, _, _, _, _, _, _, _, _, _, _, _, _, _, _, _]) (by with_unfolding_all exact rfl) (fun K hK => ?_)
            iterate 21 (go_big_quiet_step (fail))
            refine wpQuiet_nil (hK _ ?_); clear hK K
            refine Dr.plan_end rfl ?_
            try go_frame
            go_wp2
            go_roundw
            case rel => exact ⟨0 + 1, by go_num, by omega, Lib.hid (opnOk_succ Hk.out (by rw [Hxy.out.1, Hxy.out.2]; exact Hq.out (by trivial)) (fun h => by omega)), hbf⟩
            case measure => simp [intOf]; omega
        · obtain ⟨b2, off2, e2, -, -, s1⟩ := at_rng (hO.ext hbr) (show k - 1 < opn.length by omega)
          injection e2 with e2
          injection e2 with e3 e4
          subst e3 e4
          obtain ⟨z, hze⟩ : ∃ x, (opn.getD (k - 1) (0, 0)).2 = x := ⟨_, rfl⟩
          rw [hze] at s1
          have Hz := Lib.hid hze
          have hkp : (0 : Int) < (k : Int) := by omega
          have hkp2 : 0 < k := by omega
          clear hze h0
          go_upto_region 4 with fail
          refine Dr.wp_region_plan 29 [] (.q [0, 1, 2, 3, 4, 5, 6] (.e1 7 (.q [8, 9, 10, 11, 12, 13, 14, 15, 16, 17, 18, 19, 20, 21, 22, 23, 24, 25, 26, 27, 28] .done))) (by kernel_rfl) (by kernel_rfl) ?_
          have hbd := hbr.drew
          have hBd := hBr.drew
          have r0 := cell_ext r0 (ext_drew wr)
          have r1 := cell_ext r1 (ext_drew wr)
          have s1 := cell_ext s1 (ext_drew wr)
          clear c0 hbr hBr
          generalize World.drew wr = V at *
          have q0 := Dr.cell0 (hBd.cell (i := 0) rfl)
          have q1 := Dr.cell0 r0
          have q2 := Dr.cell0 r1
          with_reducible refine Dr.plan_q (l := [_, _, _, _, _, _, _]) (by with_unfolding_all exact rfl) (fun K hK => ?_)
          iterate 7 (go_big_quiet_step (fail))
          refine wpQuiet_nil (hK _ ?_); clear hK K
          clear q0 q1 q2
          have CE := Lib.hid (ends_any x y 0 (days - 1) V)
          have Hq := Lib.hid (show endB (x, y) 0 (days - 1) = true → 0 ≤ x ∧ x ≤ y ∧ y ≤ days - 1 from fun h => of_decide_eq_true h)
          generalize endB (x, y) 0 (days - 1) = q at *
          refine Dr.plan_e rfl (by rfl) (fun K hK => ?_)
          go_wp2_with fail
          refine CE.out.mono ?_; rintro e V1 ⟨rfl, hb1⟩
          refine hK _ _ (.of hb1) ?_; clear hK K CE
          have hB1 := hBd.ext hb1
          have hbf := ext_trans hbd hb1
          have q0 := Dr.cell0 (hB1.cell (i := 0) rfl)
          have r0 := cell_ext r0 hb1
          have s1 := cell_ext s1 hb1
          have q1 := Dr.cell0 r0
          have q2 := Dr.cell0 s1
          cases q
          · with_reducible refine Dr.plan_q (l := [_, _, _, _, _, _, _, _, _, _, _, _, _, _, _, _, _, _, _, _, _]) (by with_unfolding_all exact rfl) (fun K hK => ?_)
            iterate 21 (go_big_quiet_step (fail))
            refine wpQuiet_nil (hK _ ?_); clear hK K
            refine Dr.plan_end rfl ?_
            try go_frame
            go_wp2
            go_ret
            exact Soft.no (ext_trans hxw hbf)
          · by_cases hle : x ≤ z
            · with_reducible refine Dr.plan_q (l := [_, _, _, _, _, _, _, _, _, _, _, _, _, _, _, _, _, _, _, _, _]) (by with_unfolding_all exact rfl) (fun K hK => ?_)
              iterate 21 (go_big_quiet_step (fail))
              refine wpQuiet_nil (hK _ ?_); clear hK K
              refine Dr.plan_end rfl ?_
              try go_frame
              go_wp2
              go_ret
              exact Soft.no (ext_trans hxw hbf)
            · with_reducible refine Dr.plan_q (l := [_, _, _, _, _, _, _, _, _, _, _, _, _, _, _, _, _, _, _, _, _]) (by with_unfolding_all exact rfl) (fun K hK => ?_)
              iterate 21 (go_big_quiet_step (fail))
              refine wpQuiet_nil (hK _ ?_); clear hK K
              refine Dr.plan_end rfl ?_
              try go_frame
              go_wp2
              go_roundw
              case rel => exact ⟨k + 1, by go_num, by omega, Lib.hid (opnOk_succ Hk.out (by rw [Hxy.out.1, Hxy.out.2]; exact Hq.out (by trivial)) (fun _ => by rw [Hz.out, Hxy.out.1]; omega)), hbf⟩
              case measure => simp [intOf]; omega
      · obtain rfl : k = no := by omega
        go_wp2
        go_meet
        case rel => exact ⟨Hk, hbr⟩
  case rest =>
    obtain ⟨Hop, hb2⟩ := hcut
    generalize wc = Wa at *
    go_upto_block 2 with fail
    go_cut [6] from 7 (fun _ wc => Hid (rivOk riv nr) ∧ Below W1.heap.size W1 wc)
    case first =>
      go_wp2
      go_loopw [6] (fun t wr => ∃ k : Nat, t = .int .i64 k ∧ k ≤ nr ∧ Hid (rivOk riv k) ∧ Below W1.heap.size W1 wr) (fun t _ => nr - (intOf t).toNat)
      case atStart => exact ⟨0, rfl, by omega, Lib.hid (fun i hi => by omega), hb2⟩
      case round =>
        obtain ⟨k, rfl, hk, Hk, hbr⟩ := hrel
        have hBr := hB.ext hbr
        have c6 : wr.cell? ⟨w.heap.size, 6, none⟩ = _ := hBr.cell (i := 6) rfl
        by_cases hlt : k < nr
        · have hk1 : k < riv.length := by rw [Hnr.out]; exact hlt
          obtain ⟨b, off, rfl, hbl, r0, r1⟩ := at_rng (hV.ext hbr) hk1
          obtain ⟨x, hxe⟩ : ∃ x, (riv.getD k (0, 0)).1 = x := ⟨_, rfl⟩
          obtain ⟨y, hye⟩ : ∃ x, (riv.getD k (0, 0)).2 = x := ⟨_, rfl⟩
          have Hxy := Lib.hid (⟨hxe, hye⟩ : (riv.getD k (0, 0)).1 = x ∧ (riv.getD k (0, 0)).2 = y)
          rw [hxe] at r0
          rw [hye] at r1
          clear hxe hye
          have CE := Lib.hid (ends_any x y (-60) 60 wr)
          have Hq := Lib.hid (show endB (x, y) (-60) 60 = true → -60 ≤ x ∧ x ≤ y ∧ y ≤ 60 from fun h => of_decide_eq_true h)
          generalize endB (x, y) (-60) 60 = q at *
          have hkn : (k : Int) < (nr : Int) := by omega
          have hk0 : (0 : Int) ≤ (k : Int) := by omega
          go_wp2_with fail
          refine CE.out.mono ?_; rintro e V1 ⟨rfl, hb1⟩
          have hbf := ext_trans hbr hb1
          clear CE
          cases q
          · go_wp2
            go_ret
            exact Soft.no (ext_trans hxw hbf)
          · go_wp2
            go_roundw
            case rel => exact ⟨k + 1, by go_num, by omega, Lib.hid (rivOk_succ Hk.out (by rw [Hxy.out.1, Hxy.out.2]; exact Hq.out (by trivial))), hbf⟩
            case measure => simp [intOf]; omega
        · obtain rfl : k = nr := by omega
          go_wp2
          go_meet
          case rel => exact ⟨Hk, hbr⟩
    case rest =>
      obtain ⟨Hrv, hb3⟩ := hcut
      generalize wc = Wb at *
      have hBb := hB.ext hb3
      have c0 : Wb.cell? ⟨w.heap.size, 0, none⟩ = _ := hBb.cell (i := 0) rfl
      have c1 : Wb.cell? ⟨w.heap.size, 1, none⟩ = _ := hBb.cell (i := 1) rfl
      have c2 : Wb.cell? ⟨w.heap.size, 2, none⟩ = _ := hBb.cell (i := 2) rfl
      have c3 : Wb.cell? ⟨w.heap.size, 3, none⟩ = _ := hBb.cell (i := 3) rfl
      have c4 : Wb.cell? ⟨w.heap.size, 4, none⟩ = _ := hBb.cell (i := 4) rfl
      have c5 : Wb.cell? ⟨w.heap.size, 5, none⟩ = _ := hBb.cell (i := 5) rfl
      have c6 : Wb.cell? ⟨w.heap.size, 6, none⟩ = _ := hBb.cell (i := 6) rfl
      have c7 : Wb.cell? ⟨w.heap.size, 7, none⟩ = _ := hBb.cell (i := 7) rfl
      have c8 : Wb.cell? ⟨w.heap.size, 8, none⟩ = _ := hBb.cell (i := 8) rfl
      have hxb := ext_trans hxw hb3
      have C1 := Lib.hid (In_any (no : Int) 1 3 Wb)
      have Hq1 := Lib.hid (show btwE (no : Int) 1 3 = true → 1 ≤ (no : Int) ∧ (no : Int) ≤ 3 from fun h => of_decide_eq_true h)
      have CE := Lib.hid (ends_any slo shi 1 10 Wb)
      have Hq2 := Lib.hid (show endB (slo, shi) 1 10 = true → 1 ≤ slo ∧ slo ≤ shi ∧ shi ≤ 10 from fun h => of_decide_eq_true h)
      have C3 := Lib.hid (fun V => In_any pay 0 1000000 V)
      have Hq3 := Lib.hid (show btwE pay 0 1000000 = true → 0 ≤ pay ∧ pay ≤ 1000000 from fun h => of_decide_eq_true h)
      have C4 := Lib.hid (fun V => In_any lot 0 100000 V)
      have Hq4 := Lib.hid (show btwE lot 0 100000 = true → 0 ≤ lot ∧ lot ≤ 100000 from fun h => of_decide_eq_true h)
      have C5 := Lib.hid (fun V => In_any rent 0 1000000 V)
      have Hq5 := Lib.hid (show btwE rent 0 1000000 = true → 0 ≤ rent ∧ rent ≤ 1000000 from fun h => of_decide_eq_true h)
      have C7 := Lib.hid (fun V => In_any cold 0 60 V)
      have Hq7 := Lib.hid (show btwE cold 0 60 = true → 0 ≤ cold ∧ cold ≤ 60 from fun h => of_decide_eq_true h)
      have C8 := Lib.hid (fun V => In_any cut 0 1000 V)
      have Hq8 := Lib.hid (show btwE cut 0 1000 = true → 0 ≤ cut ∧ cut ≤ 1000 from fun h => of_decide_eq_true h)
      generalize btwE (no : Int) 1 3 = q1 at *
      generalize endB (slo, shi) 1 10 = q2 at *
      generalize btwE pay 0 1000000 = q3 at *
      generalize btwE lot 0 100000 = q4 at *
      generalize btwE rent 0 1000000 = q5 at *
      generalize btwE cold 0 60 = q7 at *
      generalize btwE cut 0 1000 = q8 at *
      go_wp2_with fail
      refine C1.out.mono ?_; rintro e w1 ⟨rfl, rfl⟩
      cases q1
      · go_wp2
        go_ret
        exact Soft.no hxb
      go_wp2_with fail
      refine CE.out.mono ?_; rintro e Wc ⟨rfl, hb4⟩
      clear c0 c1 c2 c3 c4 c5 c6 c7 c8
      have hBb := hBb.ext hb4
      have hxb := ext_trans hxb hb4
      have c0 : Wc.cell? ⟨w.heap.size, 0, none⟩ = _ := hBb.cell (i := 0) rfl
      have c1 : Wc.cell? ⟨w.heap.size, 1, none⟩ = _ := hBb.cell (i := 1) rfl
      have c2 : Wc.cell? ⟨w.heap.size, 2, none⟩ = _ := hBb.cell (i := 2) rfl
      have c3 : Wc.cell? ⟨w.heap.size, 3, none⟩ = _ := hBb.cell (i := 3) rfl
      have c4 : Wc.cell? ⟨w.heap.size, 4, none⟩ = _ := hBb.cell (i := 4) rfl
      have c5 : Wc.cell? ⟨w.heap.size, 5, none⟩ = _ := hBb.cell (i := 5) rfl
      have c6 : Wc.cell? ⟨w.heap.size, 6, none⟩ = _ := hBb.cell (i := 6) rfl
      have c7 : Wc.cell? ⟨w.heap.size, 7, none⟩ = _ := hBb.cell (i := 7) rfl
      have c8 : Wc.cell? ⟨w.heap.size, 8, none⟩ = _ := hBb.cell (i := 8) rfl
      cases q2
      · go_wp2
        go_ret
        exact Soft.no hxb
      go_wp2_with fail
      refine (C3.out _).mono ?_; rintro e w1 ⟨rfl, rfl⟩
      cases q3
      · go_wp2
        go_ret
        exact Soft.no hxb
      go_wp2_with fail
      refine (C4.out _).mono ?_; rintro e w1 ⟨rfl, rfl⟩
      cases q4
      · go_wp2
        go_ret
        exact Soft.no hxb
      go_wp2_with fail
      refine (C5.out _).mono ?_; rintro e w1 ⟨rfl, rfl⟩
      cases q5
      · go_wp2
        go_ret
        exact Soft.no hxb
      by_cases h6 : nr ≤ 3
      rotate_left
      · have h6' : ¬ (nr : Int) ≤ 3 := by omega
        go_wp2
        go_ret
        exact Soft.no hxb
      have h6' : (nr : Int) ≤ 3 := by omega
      go_wp2_with fail
      refine (C7.out _).mono ?_; rintro e w1 ⟨rfl, rfl⟩
      cases q7
      · go_wp2
        go_ret
        exact Soft.no hxb
      go_wp2_with fail
      refine (C8.out _).mono ?_; rintro e w1 ⟨rfl, rfl⟩
      go_wp2
      go_ret
      refine Soft.of hxb fun hb => ?_
      have n1 := Hq1.out (by trivial)
      exact ⟨by have := Hno.out; simp only; omega, by have := Hno.out; simp only; omega, by simp only; rw [Hno.out]; exact Hop.out, Hq2.out (by trivial), Hq3.out (by trivial), Hq4.out (by trivial), Hq5.out (by trivial), by have := Hnr.out; simp only; omega, by simp only; rw [Hnr.out]; exact Hrv.out, Hq7.out (by trivial), Hq8.out hb⟩
end Go.Proofs.Ytilkoooahoecfaa.Er

/- Walk: the document's Right. -/
import Derived.Test.YtilkoooahoecfaaErnE
namespace Go.Proofs.Ytilkoooahoecfaa.Er
open Go.RowKit Go.Bs Go.Pl Go.Sort Go.Er
def LegOk (t : TrV) (i k : Nat) : Prop := (0 ≤ ((t.lg.getD i default).l.getD k (0, 0)).1 ∧ ((t.lg.getD i default).l.getD k (0, 0)).1 ≤ 200 ∧ 0 ≤ ((t.lg.getD i default).l.getD k (0, 0)).2 ∧ ((t.lg.getD i default).l.getD k (0, 0)).2 ≤ 1000000) ∧ (i = k → (t.lg.getD i default).l.getD k (0, 0) = (0, 0))
def RowOk (t : TrV) (i : Nat) : Prop := (0 < i → TownOk (t.tw.getD i default).x t.days) ∧ (t.lg.getD i default).l.length = t.tw.length ∧ ∀ k, k < t.tw.length → LegOk t i k
theorem getD_at {α : Type} (l : List α) {i : Nat} (h : i < l.length) (d : α) : l.getD i d = l[i] := by rw [List.getD_eq_getElem?_getD, List.getElem?_eq_getElem h]; rfl
theorem below_succ {P : Nat → Prop} {k : Nat} (h : ∀ j, j < k → P j) (hk : P k) : ∀ j, j < k + 1 → P j := fun j hj => by
  by_cases e : j = k
  · rw [e]; exact hk
  · exact h j (by omega)
set_option maxRecDepth 100000 in
set_option maxHeartbeats 4000000 in
theorem Right_any (t : TrV) (w : World) (hM : TrM w t) : Calls Try.prog 6 #[t.val] w (Soft (TrOk t) w) := by
  have hx := ext_alloc w (.cells t.cells.toArray 25)
  have hB := Blk.new w 25 t.cells
  have hM1 := hM.ext hx
  clear hM
  unfold TrV.val TrV.cells at *
  go_enter Try.func6, Try.ntmps6
  go_upto_region 2 with fail
  change Blk (w.alloc (.cells #[.int .i64 t.days, .int .i64 t.shift, .int .i64 t.size, .slice t.A t.tw.length t.ca, .slice t.B t.lg.length t.cb] 25)) w.heap.size _ _ at hB
  generalize w.alloc (.cells #[.int .i64 t.days, .int .i64 t.shift, .int .i64 t.size, .slice t.A t.tw.length t.ca, .slice t.B t.lg.length t.cb] 25) = W1 at *
  have c0 : W1.cell? ⟨w.heap.size, 0, none⟩ = _ := hB.cell (i := 0) rfl
  have c1 : W1.cell? ⟨w.heap.size, 1, none⟩ = _ := hB.cell (i := 1) rfl
  have c2 : W1.cell? ⟨w.heap.size, 2, none⟩ = _ := hB.cell (i := 2) rfl
  have c3 : W1.cell? ⟨w.heap.size, 3, none⟩ = _ := hB.cell (i := 3) rfl
  have c4 : W1.cell? ⟨w.heap.size, 4, none⟩ = _ := hB.cell (i := 4) rfl
  have C0 := Lib.hid (In_any t.days 1 60 W1)
  have Hq0 := Lib.hid (show btwE t.days 1 60 = true → 1 ≤ t.days ∧ t.days ≤ 60 from fun h => of_decide_eq_true h)
  generalize btwE t.days 1 60 = q0 at *
  have C1 := Lib.hid (In_any t.shift 1 24 W1)
  have Hq1 := Lib.hid (show btwE t.shift 1 24 = true → 1 ≤ t.shift ∧ t.shift ≤ 24 from fun h => of_decide_eq_true h)
  generalize btwE t.shift 1 24 = q1 at *
  have C2 := Lib.hid (In_any t.size 0 100000 W1)
  have Hq2 := Lib.hid (show btwE t.size 0 100000 = true → 0 ≤ t.size ∧ t.size ≤ 100000 from fun h => of_decide_eq_true h)
  generalize btwE t.size 0 100000 = q2 at *
  have C3 := Lib.hid (In_any (t.tw.length : Int) 2 9 W1)
  have Hq3 := Lib.hid (show btwE (t.tw.length : Int) 2 9 = true → 2 ≤ (t.tw.length : Int) ∧ (t.tw.length : Int) ≤ 9 from fun h => of_decide_eq_true h)
  generalize btwE (t.tw.length : Int) 2 9 = q3 at *
  go_wp2_with fail
  refine C0.out.mono ?_; rintro e w1 ⟨rfl, rfl⟩
  cases q0
  · go_wp2
    go_ret
    exact Soft.no hx
  go_wp2_with fail
  refine C1.out.mono ?_; rintro e w1 ⟨rfl, rfl⟩
  cases q1
  · go_wp2
    go_ret
    exact Soft.no hx
  go_wp2_with fail
  refine C2.out.mono ?_; rintro e w1 ⟨rfl, rfl⟩
  cases q2
  · go_wp2
    go_ret
    exact Soft.no hx
  go_wp2_with fail
  refine C3.out.mono ?_; rintro e w1 ⟨rfl, rfl⟩
  cases q3
  · go_wp2
    go_ret
    exact Soft.no hx
  have hn := Hq3.out rfl
  by_cases hln : t.lg.length = t.tw.length
  rotate_left
  · have hln' : ((t.lg.length : Int) != (t.tw.length : Int)) = true := by rw [bne_iff_ne]; omega
    go_wp2
    go_ret
    exact Soft.no hx
  have hln' : ((t.lg.length : Int) != (t.tw.length : Int)) = false := by rw [bne_eq_false_iff_eq]; omega
  obtain ⟨b, off, hA, hc⟩ := tw_at hM1.tw (show 0 < t.tw.length by omega)
  have hn0 : (0 : Int) < (t.tw.length : Int) := by omega
  rw [hA] at c3
  have r0 := hc 0 _ rfl
  have r1 := hc 1 _ rfl
  have r2 := hc 2 _ rfl
  have r3 := hc 3 _ rfl
  have r4 := hc 4 _ rfl
  have r5 := hc 5 _ rfl
  have r6 := hc 6 _ rfl
  have r7 := hc 7 _ rfl
  have r8 := hc 8 _ rfl
  simp only [Nat.zero_mul, Nat.add_zero] at r0 r1 r2 r3 r4 r5 r6 r7 r8
  have CE := Lib.hid (empty_any (t.tw[0]'(by omega)) W1)
  unfold TwV.val at CE
  have Hv0 := Lib.hid (getD_at t.tw (show 0 < t.tw.length by omega) default)
  clear hc
  generalize (t.tw[0]'(by omega)) = v0 at *
  rw [hA]
  clear C0 C1 C2 C3
  go_wp2_with fail
  refine CE.out.mono ?_; rintro e W2 ⟨q, rfl, hq, hb2⟩
  have Hhome := Lib.hid (show q = true → emptyT (t.tw.getD 0 default).x from fun h => by rw [Hv0.out]; exact hq h)
  have hx2 := ext_trans hx hb2
  clear hq CE
  cases q
  · go_wp2
    go_ret
    exact Soft.no hx2
  have hM2 := hM1.ext hb2
  have hB2 := hB.ext hb2
  have HA := Lib.hid hA
  obtain ⟨b3, off3, hBB, -⟩ := hM2.lg.at1 (show 0 < t.lg.length by omega) rfl
  have HBB := Lib.hid hBB
  rw [hA, hBB] at hB2
  rw [hBB]
  clear hM1 hB hb2 c0 c1 c2 c3 c4 hA hBB r0 r1 r2 r3 r4 r5 r6 r7 r8
  generalize hnn : t.tw.length = n at *
  have Hn := Lib.hid hnn
  go_upto_block 0 with fail
  go_wp2
  go_loopw [4, 5, 6] (fun ii _ _ wr => ∃ i : Nat, ii = .int .i64 i ∧ i ≤ n ∧ Hid (∀ j, j < i → RowOk t j) ∧ Below W2.heap.size W2 wr) (fun ii _ _ _ => n - (intOf ii).toNat)
  case atStart => exact ⟨0, rfl, by omega, Lib.hid (fun j hj => by omega), Below.refl _ _⟩
  case round =>
    obtain ⟨i, rfl, hi, Hi, hbr⟩ := hrel
    have hBr := hB2.ext hbr
    have c0 : wr.cell? ⟨w.heap.size, 0, none⟩ = _ := hBr.cell (i := 0) rfl
    have c3 : wr.cell? ⟨w.heap.size, 3, none⟩ = _ := hBr.cell (i := 3) rfl
    have c4 : wr.cell? ⟨w.heap.size, 4, none⟩ = _ := hBr.cell (i := 4) rfl
    by_cases hlt : i < n
    · have hin : (i : Int) < (n : Int) := by omega
      have hi0 : (0 : Int) ≤ (i : Int) := by omega
      have Hlgi := Lib.hid (show (t.lg.getD i default) = t.lg[i]'(by omega) from getD_at _ (by omega) _)
      have Htwi := Lib.hid (show (t.tw.getD i default) = t.tw[i]'(by omega) from getD_at _ (by omega) _)
      obtain ⟨b3', off3', e3, -, R9⟩ := hM2.lg.at1 (show i < t.lg.length by omega) rfl
      rw [HBB.out] at e3
      cases e3
      have hrowM := (hM2.leg _ (List.getElem_mem (show i < t.lg.length by omega))).1
      obtain ⟨b4, off4, e4, hc4⟩ := tw_at hM2.tw (show i < t.tw.length by omega)
      rw [HA.out] at e4
      cases e4
      have hvM := hM2.town _ (List.getElem_mem (show i < t.tw.length by omega))
      have R0 := hc4 0 _ rfl
      have R1 := hc4 1 _ rfl
      have R2 := hc4 2 _ rfl
      have R3 := hc4 3 _ rfl
      have R4 := hc4 4 _ rfl
      have R5 := hc4 5 _ rfl
      have R6 := hc4 6 _ rfl
      have R7 := hc4 7 _ rfl
      have R8 := hc4 8 _ rfl
      clear hc4
      generalize (t.lg[i]'(by omega)) = row at *
      generalize (t.tw[i]'(by omega)) = vi at *
      obtain ⟨rl, rA, rc⟩ := row
      simp only at R9 hrowM
      generalize hrn : rl.length = rn at *
      have Hrn := Lib.hid hrn
      clear hrn
      by_cases h0 : i = 0
      · subst h0
        simp only [Nat.add_zero] at R9
        clear R0 R1 R2 R3 R4 R5 R6 R7 R8
        go_upto_region 7 with fail
        refine Dr.wp_region_plan 23 [] (.q [0, 1, 2, 3, 4, 5, 6, 7, 8, 9] (.e1 10 (.q [11, 12, 13, 14, 15, 16, 17, 18, 19, 20, 21, 22] .done))) (by kernel_rfl) (by kernel_rfl) ?_
        have hbf := hbr.drew
        have hBd := hBr.drew
        have r9 := cell_ext R9 hbf
        clear c0 c3 c4 hbr hBr
        generalize World.drew wr = V at *
        have q0 := Dr.cell0 (hBd.cell (i := 4) rfl)
        have q1 := Dr.cell0 r9
        with_reducible refine Dr.plan_q (l := [_, _, _, _, _, _, _, _, _, _]) (by with_unfolding_all exact rfl) (fun K hK => ?_)
        iterate 10 (go_big_quiet_step (fail))
        refine wpQuiet_nil (hK _ ?_); clear hK K
        refine Dr.plan_e_skip rfl (by rfl) ?_
        go_frame
        by_cases hrow : rn = n
        rotate_left
        · have hrow' : ((rn : Int) != (n : Int)) = true := by rw [bne_iff_ne]; omega
          with_reducible refine Dr.plan_q (l := [_, _, _, _, _, _, _, _, _, _, _, _]) (by with_unfolding_all exact rfl) (fun K hK => ?_)
          iterate 12 (go_big_quiet_step (fail))
          refine wpQuiet_nil (hK _ ?_); clear hK K
          refine Dr.plan_end rfl ?_
          try go_frame
          go_wp2
          go_ret
          exact Soft.no (ext_trans hx2 hbf)
        have hrow' : ((rn : Int) != (n : Int)) = false := by rw [bne_eq_false_iff_eq]; omega
        with_reducible refine Dr.plan_q (l := [_, _, _, _, _, _, _, _, _, _, _, _]) (by with_unfolding_all exact rfl) (fun K hK => ?_)
        iterate 12 (go_big_quiet_step (fail))
        refine wpQuiet_nil (hK _ ?_); clear hK K
        refine Dr.plan_end rfl ?_
        try go_frame
        clear hrow'
        have hrow := hrow.symm
        subst hrow
        go_wp2
        go_loopw [5, 6] (fun kk _ wr => ∃ k : Nat, kk = .int .i64 k ∧ k ≤ n ∧ Hid (∀ j, j < k → LegOk t 0 j) ∧ Below W2.heap.size W2 wr) (fun kk _ _ => n - (intOf kk).toNat)
        case atStart => exact ⟨0, rfl, by omega, Lib.hid (fun j hj => by omega), hbf⟩
        case round =>
          obtain ⟨k, rfl, hk, Hk, hbr⟩ := hrel
          have hBr := hB2.ext hbr
          have c4 : wr.cell? ⟨w.heap.size, 4, none⟩ = _ := hBr.cell (i := 4) rfl
          by_cases hlt2 : k < n
          · have r9 := cell_ext R9 hbr
            obtain ⟨b6, off6, rfl, -, r10, r11⟩ := at_rng (hrowM.ext hbr) (show k < rl.length by rw [Hrn.out]; omega)
            obtain ⟨x, hxe⟩ : ∃ x, (rl.getD k (0, 0)).1 = x := ⟨_, rfl⟩
            obtain ⟨y, hye⟩ : ∃ x, (rl.getD k (0, 0)).2 = x := ⟨_, rfl⟩
            have Hxy := Lib.hid (show rl.getD k (0, 0) = (x, y) by rw [← hxe, ← hye])
            rw [hxe] at r10
            rw [hye] at r11
            clear hxe hye
            have hk0 : (0 : Int) ≤ (k : Int) := by omega
            have hkn : (k : Int) < (n : Int) := by omega
            have hbn := hbr.trans ((ext_alloc wr (.cells #[.int .i64 x, .int .i64 y] 57)).mono hbr.size)
            have D1 := Lib.hid (fun V => In_any x 0 200 V)
            have Hd1 := Lib.hid (show btwE x 0 200 = true → 0 ≤ x ∧ x ≤ 200 from fun h => of_decide_eq_true h)
            generalize btwE x 0 200 = d1 at *
            have D2 := Lib.hid (fun V => In_any y 0 1000000 V)
            have Hd2 := Lib.hid (show btwE y 0 1000000 = true → 0 ≤ y ∧ y ≤ 1000000 from fun h => of_decide_eq_true h)
            generalize btwE y 0 1000000 = d2 at *
            go_wp2_with fail
            refine (D1.out _).mono ?_; rintro e w1 ⟨rfl, rfl⟩
            cases d1
            · go_wp2
              go_ret
              exact Soft.no (ext_trans hx2 hbn)
            go_wp2_with fail
            refine (D2.out _).mono ?_; rintro e w1 ⟨rfl, rfl⟩
            cases d2
            · go_wp2
              go_ret
              exact Soft.no (ext_trans hx2 hbn)
            by_cases hik : 0 = k
            · subst hik
              by_cases hx0 : x = 0
              · subst hx0
                by_cases hy0 : y = 0
                · subst hy0
                  go_wp2
                  go_roundw
                  case rel => exact ⟨0 + 1, by go_num, by omega, Lib.hid (below_succ Hk.out (by unfold LegOk; rw [Hlgi.out, Hxy.out]; exact ⟨by decide, fun _ => rfl⟩)), hbn⟩
                  case measure => simp [intOf] <;> omega
                · go_wp2
                  go_ret
                  exact Soft.no (ext_trans hx2 hbn)
              · go_wp2
                go_ret
                exact Soft.no (ext_trans hx2 hbn)
            · have hik' : ¬ (0 : Int) = (k : Int) := by omega
              go_wp2
              go_roundw
              case rel => exact ⟨k + 1, by go_num, by omega, Lib.hid (below_succ Hk.out (by unfold LegOk; rw [Hlgi.out, Hxy.out]; have h1 := Hd1.out (by trivial); have h2 := Hd2.out (by trivial); exact ⟨⟨h1.1, h1.2, h2.1, h2.2⟩, fun h => absurd h hik⟩)), hbn⟩
              case measure => simp [intOf] <;> omega
          · obtain rfl : k = n := by omega
            go_wp2
            go_roundw
            case rel => exact ⟨0 + 1, by go_num, by omega, Lib.hid (below_succ Hi.out ⟨fun h => absurd h (by omega), by rw [Hlgi.out, Hn.out]; exact Hrn.out, fun j hj => Hk.out j (by have h2 := Hn.out; omega)⟩), hbr⟩
            case measure => simp [intOf] <;> omega
      · have hi1 : (0 : Int) < (i : Int) := by omega
        have hi2 : 0 < i := by omega
        simp only [Nat.add_zero] at R0
        have CT := Lib.hid (fun V (hV : Below W2.heap.size W2 V) => town_any vi t.days V (Hq0.out (by trivial)) (hvM.ext hV))
        unfold TwV.val at CT
        go_upto_region 7 with fail
        refine Dr.wp_region_plan 23 [] (.q [0, 1, 2, 3, 4, 5, 6, 7, 8, 9] (.e1 10 (.q [11, 12, 13, 14, 15, 16, 17, 18, 19, 20, 21, 22] .done))) (by kernel_rfl) (by kernel_rfl) ?_
        have hbd := hbr.drew
        have hBd := hBr.drew
        clear c0 c3 c4 hbr hBr
        generalize World.drew wr = V at *
        have q0 := Dr.cell0 (hBd.cell (i := 0) rfl)
        have q3 := Dr.cell0 (hBd.cell (i := 3) rfl)
        have s0 := Dr.cell0 (cell_ext R0 hbd)
        have s1 := Dr.cell0 (cell_ext R1 hbd)
        have s2 := Dr.cell0 (cell_ext R2 hbd)
        have s3 := Dr.cell0 (cell_ext R3 hbd)
        have s4 := Dr.cell0 (cell_ext R4 hbd)
        have s5 := Dr.cell0 (cell_ext R5 hbd)
        have s6 := Dr.cell0 (cell_ext R6 hbd)
        have s7 := Dr.cell0 (cell_ext R7 hbd)
        have s8 := Dr.cell0 (cell_ext R8 hbd)
        with_reducible refine Dr.plan_q (l := [_, _, _, _, _, _, _, _, _, _]) (by with_unfolding_all exact rfl) (fun K hK => ?_)
        iterate 10 (go_big_quiet_step (fail))
        refine wpQuiet_nil (hK _ ?_); clear hK K
        clear s0 s1 s2 s3 s4 s5 s6 s7 s8 q0 q3
        refine Dr.plan_e rfl (by rfl) (fun K hK => ?_)
        go_wp2_with fail
        refine (CT.out _ hbd).mono ?_; rintro e V1 ⟨q, rfl, hq, hb1⟩
        refine hK _ _ (.of hb1) ?_; clear hK K CT
        have Htn := Lib.hid hq
        clear hq
        have hbf := ext_trans hbd hb1
        have hB1 := hBd.ext hb1
        have r9 := cell_ext R9 hbf
        have q0 := Dr.cell0 (hB1.cell (i := 4) rfl)
        have q1 := Dr.cell0 r9
        clear hbd hBd hb1
        cases q
        · with_reducible refine Dr.plan_q (l := [_, _, _, _, _, _, _, _, _, _, _, _]) (by with_unfolding_all exact rfl) (fun K hK => ?_)
          iterate 12 (go_big_quiet_step (fail))
          refine wpQuiet_nil (hK _ ?_); clear hK K
          refine Dr.plan_end rfl ?_
          try go_frame
          go_wp2
          go_ret
          exact Soft.no (ext_trans hx2 hbf)
        by_cases hrow : rn = n
        rotate_left
        · have hrow' : ((rn : Int) != (n : Int)) = true := by rw [bne_iff_ne]; omega
          with_reducible refine Dr.plan_q (l := [_, _, _, _, _, _, _, _, _, _, _, _]) (by with_unfolding_all exact rfl) (fun K hK => ?_)
          iterate 12 (go_big_quiet_step (fail))
          refine wpQuiet_nil (hK _ ?_); clear hK K
          refine Dr.plan_end rfl ?_
          try go_frame
          go_wp2
          go_ret
          exact Soft.no (ext_trans hx2 hbf)
        have hrow' : ((rn : Int) != (n : Int)) = false := by rw [bne_eq_false_iff_eq]; omega
        with_reducible refine Dr.plan_q (l := [_, _, _, _, _, _, _, _, _, _, _, _]) (by with_unfolding_all exact rfl) (fun K hK => ?_)
        iterate 12 (go_big_quiet_step (fail))
        refine wpQuiet_nil (hK _ ?_); clear hK K
        refine Dr.plan_end rfl ?_
        try go_frame
        clear hrow'
        have hrow := hrow.symm
        subst hrow
        go_wp2
        go_loopw [5, 6] (fun kk _ wr => ∃ k : Nat, kk = .int .i64 k ∧ k ≤ n ∧ Hid (∀ j, j < k → LegOk t i j) ∧ Below W2.heap.size W2 wr) (fun kk _ _ => n - (intOf kk).toNat)
        case atStart => exact ⟨0, rfl, by omega, Lib.hid (fun j hj => by omega), hbf⟩
        case round =>
          obtain ⟨k, rfl, hk, Hk, hbr⟩ := hrel
          have hBr := hB2.ext hbr
          have c4 : wr.cell? ⟨w.heap.size, 4, none⟩ = _ := hBr.cell (i := 4) rfl
          by_cases hlt2 : k < n
          · have r9 := cell_ext R9 hbr
            obtain ⟨b6, off6, rfl, -, r10, r11⟩ := at_rng (hrowM.ext hbr) (show k < rl.length by rw [Hrn.out]; omega)
            obtain ⟨x, hxe⟩ : ∃ x, (rl.getD k (0, 0)).1 = x := ⟨_, rfl⟩
            obtain ⟨y, hye⟩ : ∃ x, (rl.getD k (0, 0)).2 = x := ⟨_, rfl⟩
            have Hxy := Lib.hid (show rl.getD k (0, 0) = (x, y) by rw [← hxe, ← hye])
            rw [hxe] at r10
            rw [hye] at r11
            clear hxe hye
            have hk0 : (0 : Int) ≤ (k : Int) := by omega
            have hkn : (k : Int) < (n : Int) := by omega
            have hbn := hbr.trans ((ext_alloc wr (.cells #[.int .i64 x, .int .i64 y] 57)).mono hbr.size)
            have D1 := Lib.hid (fun V => In_any x 0 200 V)
            have Hd1 := Lib.hid (show btwE x 0 200 = true → 0 ≤ x ∧ x ≤ 200 from fun h => of_decide_eq_true h)
            generalize btwE x 0 200 = d1 at *
            have D2 := Lib.hid (fun V => In_any y 0 1000000 V)
            have Hd2 := Lib.hid (show btwE y 0 1000000 = true → 0 ≤ y ∧ y ≤ 1000000 from fun h => of_decide_eq_true h)
            generalize btwE y 0 1000000 = d2 at *
            go_wp2_with fail
            refine (D1.out _).mono ?_; rintro e w1 ⟨rfl, rfl⟩
            cases d1
            · go_wp2
              go_ret
              exact Soft.no (ext_trans hx2 hbn)
            go_wp2_with fail
            refine (D2.out _).mono ?_; rintro e w1 ⟨rfl, rfl⟩
            cases d2
            · go_wp2
              go_ret
              exact Soft.no (ext_trans hx2 hbn)
            by_cases hik : i = k
            · subst hik
              by_cases hx0 : x = 0
              · subst hx0
                by_cases hy0 : y = 0
                · subst hy0
                  go_wp2
                  go_roundw
                  case rel => exact ⟨i + 1, by go_num, by omega, Lib.hid (below_succ Hk.out (by unfold LegOk; rw [Hlgi.out, Hxy.out]; exact ⟨by decide, fun _ => rfl⟩)), hbn⟩
                  case measure => simp [intOf] <;> omega
                · go_wp2
                  go_ret
                  exact Soft.no (ext_trans hx2 hbn)
              · go_wp2
                go_ret
                exact Soft.no (ext_trans hx2 hbn)
            · have hik' : ¬ (i : Int) = (k : Int) := by omega
              go_wp2
              go_roundw
              case rel => exact ⟨k + 1, by go_num, by omega, Lib.hid (below_succ Hk.out (by unfold LegOk; rw [Hlgi.out, Hxy.out]; have h1 := Hd1.out (by trivial); have h2 := Hd2.out (by trivial); exact ⟨⟨h1.1, h1.2, h2.1, h2.2⟩, fun h => absurd h hik⟩)), hbn⟩
              case measure => simp [intOf] <;> omega
          · obtain rfl : k = n := by omega
            go_wp2
            go_roundw
            case rel => exact ⟨i + 1, by go_num, by omega, Lib.hid (below_succ Hi.out ⟨fun _ => by rw [Htwi.out]; exact Htn.out (by trivial), by rw [Hlgi.out, Hn.out]; exact Hrn.out, fun j hj => Hk.out j (by have h2 := Hn.out; omega)⟩), hbr⟩
            case measure => simp [intOf] <;> omega
    · obtain rfl : i = n := by omega
      have Hfin := Lib.hid (show TrOk t from ⟨Hq0.out (by trivial), Hq1.out (by trivial), Hq2.out (by trivial), by have := Hn.out; omega, by have := Hn.out; omega, by have := Hn.out; omega, Hhome.out (by trivial), fun j h0 hj => (Hi.out j (by have := Hn.out; omega)).1 h0, fun j hj => (Hi.out j (by have := Hn.out; omega)).2.1, fun j k hj hk => ((Hi.out j (by have := Hn.out; omega)).2.2 k hk).1, fun j hj => ((Hi.out j (by have := Hn.out; omega)).2.2 j hj).2 rfl⟩)
      go_wp2
      go_ret
      exact Soft.yes (ext_trans hx2 hbr) Hfin.out
end Go.Proofs.Ytilkoooahoecfaa.Er

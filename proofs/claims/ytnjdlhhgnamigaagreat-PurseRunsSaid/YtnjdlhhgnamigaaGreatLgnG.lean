/- Walk: is a ledger valid, by the reference? -/
import Derived.Test.YtnjdlhhgnamigaaGreatLgnH
namespace Go.Pu
theorem seen_mono {l : List Dif} {i j : Nat} (h : i ≤ j) {x : Int} (hs : seenB l i x = true) : seenB l j x = true := by
  unfold seenB at *
  rw [List.any_eq_true] at *
  obtain ⟨d, hd, h2⟩ := hs
  exact ⟨d, (List.take_subset_take_left l h) hd, h2⟩
end Go.Pu
namespace Go.Proofs.YtnjdlhhgnamigaaGreat
open Go.RowKit Go.Bs Go.Pu Go.Pl Go.Sort
set_option maxRecDepth 100000 in
set_option maxHeartbeats 8000000 in
theorem RightL_any (l : Led) (A : Option Addr) (n c : Nat) (B : Option Addr) (m d : Nat) (D : Option Addr) (q e : Nat) (w : World) (hL : LedM w l A n B m D q) :
    Calls Tryz.prog 11 #[ledV A n c B m d l.office l.bank l.begun l.inn l.out D q e] w fun r w' => r = .returned (.bool l.okB) ∧ Below w.heap.size w w' := by
  have hb0 := ext_alloc w (.cells #[.slice A n c, .slice B m d, .int .i64 l.office, .int .i64 l.bank, .int .i64 l.begun, .int .i64 l.inn, .int .i64 l.out, .slice D q e] 26)
  have hX := Blk.new w 26 [.slice A n c, .slice B m d, .int .i64 l.office, .int .i64 l.bank, .int .i64 l.begun, .int .i64 l.inn, .int .i64 l.out, .slice D q e]
  have hM := hL.ext hb0
  have hok : l.okB = (decide (1 ≤ (n : Int) ∧ (n : Int) ≤ 10) && (monB l.office && (monB l.bank && (monB l.begun && (monB l.inn && (monB l.out && (((List.range m).all l.bagB && decide (m ≤ 100)) && (l.windows.all monB && ((List.range q).all (difsB l) && decide (l.total = l.begun + l.inn - l.out)))))))))) := by
    rw [Led.okB_eq, hL.hn, hL.hm, hL.hq]
    simp only [List.all_cons, List.all_nil, Bool.and_true]
    cases decide (1 ≤ (n : Int) ∧ (n : Int) ≤ 10) <;> cases decide (m ≤ 100) <;> cases l.windows.all monB <;> cases monB l.office <;> cases monB l.bank <;> cases monB l.begun <;> cases monB l.inn <;> cases monB l.out <;> simp
  have C1 := Lib.hid (fun W => In_any (n : Int) 1 10 W)
  have C2 := Lib.hid (fun W => moneyR_any l.office W)
  have C3 := Lib.hid (fun W => moneyR_any l.bank W)
  have C4 := Lib.hid (fun W => moneyR_any l.begun W)
  have C5 := Lib.hid (fun W => moneyR_any l.inn W)
  have C6 := Lib.hid (fun W => moneyR_any l.out W)
  have C7 := Lib.hid (fun W h => RightBags_any l A n c B m d D q e W h)
  have CT := Lib.hid (fun W h hk => TotalR_any l A n c B m d D q e W h hk)
  unfold ledV at *
  generalize hb1 : decide (1 ≤ (n : Int) ∧ (n : Int) ≤ 10) = b1 at *
  generalize hb2 : monB l.office = b2 at *
  generalize hb3 : monB l.bank = b3 at *
  generalize hb4 : monB l.begun = b4 at *
  generalize hb5 : monB l.inn = b5 at *
  generalize hb6 : monB l.out = b6 at *
  generalize hb7 : ((List.range m).all l.bagB && decide (m ≤ 100)) = b7 at *
  generalize l.okB = res at *
  have Hok := Lib.hid hok
  have H2 := Lib.hid hb2
  have H3 := Lib.hid hb3
  have H4 := Lib.hid hb4
  have H5 := Lib.hid hb5
  have H6 := Lib.hid hb6
  have H7 := Lib.hid hb7
  clear hb1 hb2 hb3 hb4 hb5 hb6 hb7 hok hL
  go_enter Tryz.func11, Tryz.ntmps11
  go_upto_region 1 with fail
  change Blk (w.alloc (.cells #[.slice A n c, .slice B m d, .int .i64 l.office, .int .i64 l.bank, .int .i64 l.begun, .int .i64 l.inn, .int .i64 l.out, .slice D q e] 26)) _ _ _ at hX
  generalize w.alloc (.cells #[.slice A n c, .slice B m d, .int .i64 l.office, .int .i64 l.bank, .int .i64 l.begun, .int .i64 l.inn, .int .i64 l.out, .slice D q e] 26) = W0 at *
  have x0 : W0.cell? ⟨w.heap.size, 0, none⟩ = _ := hX.cell (i := 0) rfl
  have x1 : W0.cell? ⟨w.heap.size, 1, none⟩ = _ := hX.cell (i := 1) rfl
  have x2 : W0.cell? ⟨w.heap.size, 2, none⟩ = _ := hX.cell (i := 2) rfl
  have x3 : W0.cell? ⟨w.heap.size, 3, none⟩ = _ := hX.cell (i := 3) rfl
  have x4 : W0.cell? ⟨w.heap.size, 4, none⟩ = _ := hX.cell (i := 4) rfl
  have x5 : W0.cell? ⟨w.heap.size, 5, none⟩ = _ := hX.cell (i := 5) rfl
  have x6 : W0.cell? ⟨w.heap.size, 6, none⟩ = _ := hX.cell (i := 6) rfl
  have x7 : W0.cell? ⟨w.heap.size, 7, none⟩ = _ := hX.cell (i := 7) rfl
  go_wp2_with fail
  refine (C1.out _).mono ?_; rintro r w9 ⟨rfl, rfl⟩
  cases b1
  · have HY := Lib.hid (show false = res by rw [Hok.out]; simp)
    go_wp2
    go_ret
    exact ⟨ret_congr (bool_congr HY.out), hb0⟩
  go_wp2_with fail
  refine (C2.out _).mono ?_; rintro r w9 ⟨rfl, rfl⟩
  cases b2
  · have HY := Lib.hid (show false = res by rw [Hok.out]; simp)
    go_wp2
    go_ret
    exact ⟨ret_congr (bool_congr HY.out), hb0⟩
  go_wp2_with fail
  refine (C3.out _).mono ?_; rintro r w9 ⟨rfl, rfl⟩
  cases b3
  · have HY := Lib.hid (show false = res by rw [Hok.out]; simp)
    go_wp2
    go_ret
    exact ⟨ret_congr (bool_congr HY.out), hb0⟩
  go_wp2_with fail
  refine (C4.out _).mono ?_; rintro r w9 ⟨rfl, rfl⟩
  cases b4
  · have HY := Lib.hid (show false = res by rw [Hok.out]; simp)
    go_wp2
    go_ret
    exact ⟨ret_congr (bool_congr HY.out), hb0⟩
  go_wp2_with fail
  refine (C5.out _).mono ?_; rintro r w9 ⟨rfl, rfl⟩
  cases b5
  · have HY := Lib.hid (show false = res by rw [Hok.out]; simp)
    go_wp2
    go_ret
    exact ⟨ret_congr (bool_congr HY.out), hb0⟩
  go_wp2_with fail
  refine (C6.out _).mono ?_; rintro r w9 ⟨rfl, rfl⟩
  cases b6
  · have HY := Lib.hid (show false = res by rw [Hok.out]; simp)
    go_wp2
    go_ret
    exact ⟨ret_congr (bool_congr HY.out), hb0⟩
  go_wp2_with fail
  refine (C7.out _ hM).mono ?_; rintro r W1 ⟨rfl, hb1⟩
  cases b7
  · have HY := Lib.hid (show false = res by rw [Hok.out]; simp)
    go_wp2
    go_ret
    exact ⟨ret_congr (bool_congr HY.out), ext_trans hb0 hb1⟩
  have hok := Hok.out
  simp only [Bool.true_and] at hok
  have Hok2 := Lib.hid hok
  clear hok Hok C1 C2 C3 C4 C5 C6 C7 x0 x1 x2 x3 x4 x5 x6 x7
  have hbw1 := ext_trans hb0 hb1
  have hX1 := hX.ext hb1
  have hM1 := hM.ext hb1
  clear hb0 hb1 hX hM W0
  have CM := Lib.hid (fun n W => moneyR_any n W)
  have CI := Lib.hid (fun n lo hi W => In_any n lo hi W)
  have Hn := Lib.hid hM1.hn
  have Hm := Lib.hid hM1.hm
  have Hq := Lib.hid hM1.hq
  have hn9 := hM1.n9
  have hm9 := hM1.m9
  have hq9 := hM1.q9
  have hA1 := hM1.a
  have hDn := Lib.hid (fun p (hp : D.map (·.block) = some p) (h0 : 0 < q) => show p < W1.heap.size by
    obtain ⟨b, off, e, hlt, -⟩ := hM1.d.at3 (k := 0) (by rw [Hq.out]; omega) rfl
    subst e; simp at hp; subst hp; exact hlt)
  clear hDn
  have xx : W1.cell? ⟨w.heap.size, 0, none⟩ = _ := hX1.cell (i := 0) rfl
  go_wp2
  clear xx
  go_loopw [3] (fun x wr => ∃ k : Nat, x = .int .i64 k ∧ k ≤ n ∧ Hid (∀ i (hi : i < l.windows.length), i < k → monB l.windows[i] = true) ∧ W1 = wr) (fun x _ => n - (intOf x).toNat)
  case atStart => exact ⟨0, rfl, by omega, Lib.hid (fun i hi h => by omega), rfl⟩
  case round =>
    obtain ⟨k, rfl, hk, Hk, rfl⟩ := hrel
    have xx : W1.cell? ⟨w.heap.size, 0, none⟩ = _ := hX1.cell (i := 0) rfl
    by_cases hlt : k < n
    · have hlt' : (k : Int) < n := by omega
      have hk1 : k < l.windows.length := by rw [Hn.out]; exact hlt
      have HB := Lib.hid (fun (h : monB l.windows[k] = false) => show false = res by
        have : l.windows.all monB = false := by rw [List.all_eq_false]; exact ⟨_, List.getElem_mem hk1, by rw [h]; simp⟩
        rw [Hok2.out, this]; simp)
      have HG := Lib.hid (fun (h : monB l.windows[k] = true) i (hi : i < l.windows.length) (hik : i < k + 1) => if e : i < k then Hk.out i hi e else (show monB l.windows[i] = true by have e2 : i = k := (by omega); subst e2; exact h))
      obtain ⟨o, p, rfl, -, c0⟩ := hA1.at1 hk1 rfl
      have C1 := Lib.hid (CM.out l.windows[k])
      generalize monB l.windows[k] = g at *
      generalize l.windows[k] = y at *
      go_wp2_with fail
      refine (C1.out _).mono ?_; rintro r w9 ⟨rfl, rfl⟩
      cases g
      · have HY := Lib.hid (HB.out rfl)
        go_wp2
        go_ret
        exact ⟨ret_congr (bool_congr HY.out), hbw1⟩
      · have HN := Lib.hid (HG.out rfl)
        go_wp2
        go_roundw
        case rel => exact ⟨k + 1, by go_num, by omega, HN, trivial⟩
        case measure => simp [intOf]; omega
    · obtain rfl : k = n := by omega
      have hwin : l.windows.all monB = true := by
        rw [List.all_eq_true]
        intro y hy
        obtain ⟨i, hi, rfl⟩ := List.getElem_of_mem hy
        exact Hk.out i hi (by rw [← Hn.out]; exact hi)
      have Hwin := Lib.hid hwin
      have hok := Hok2.out
      rw [hwin, Bool.true_and] at hok
      have Hok3 := Lib.hid hok
      clear hok hwin Hok2 Hk hlt
      have x7 : W1.cell? ⟨w.heap.size, 7, none⟩ = _ := hX1.cell (i := 7) rfl
      go_wp2
      clear xx x7
      go_loopw [4, 5, 6] (fun x _ _ wr => ∃ j : Nat, x = .int .i64 j ∧ j ≤ q ∧ Hid (∀ i, i < j → difsB l i = true) ∧ Below W1.heap.size W1 wr) (fun x _ _ _ => q - (intOf x).toNat)
      case atStart => exact ⟨0, rfl, by omega, Lib.hid (fun i h => by omega), Below.refl _ _⟩
      case round =>
        obtain ⟨j, rfl, hj, Hj, hb⟩ := hrel
        have x7 : wr.cell? ⟨w.heap.size, 7, none⟩ = _ := (hX1.ext hb).cell (i := 7) rfl
        by_cases hlt : j < q
        · have hlt' : (j : Int) < q := by omega
          have hjl : j < l.diffs.length := by rw [Hq.out]; exact hlt
          have hdg : l.diffs.getD j default = l.diffs[j] := by simp [hjl]
          have Hdj := Lib.hid (show difsB l j = (l.difB l.diffs[j] && !seenB l.diffs j l.diffs[j].bag) by unfold difsB; rw [hdg])
          have HB := Lib.hid (fun (h : difsB l j = false) => show false = res by rw [Hok3.out, all_bad hlt h]; rfl)
          have HG := Lib.hid (fun (h : difsB l j = true) i (hi : i < j + 1) => if e : i < j then Hj.out i e else (show difsB l i = true by have e2 : i = j := (by omega); subst e2; exact h))
          obtain ⟨o, p, rfl, -, c0, c1, c2⟩ := (hM1.ext hb).d.at3 hjl rfl
          clear hdg
          generalize l.diffs[j] = x at *
          obtain ⟨db, dl, dk⟩ := x
          simp only at c0 c1 c2 Hdj
          go_upto_region 12 with fail
          have hU := Blk.new wr 84 [.int .i64 db, .int .i64 dl, .bool dk]
          have hal := ext_alloc wr (.cells #[.int .i64 db, .int .i64 dl, .bool dk] 84)
          have hb2 := ext_trans hb hal
          change Blk (wr.alloc (.cells #[.int .i64 db, .int .i64 dl, .bool dk] 84)) _ _ _ at hU
          generalize wr.heap.size = U at *
          generalize wr.alloc (.cells #[.int .i64 db, .int .i64 dl, .bool dk] 84) = V at *
          clear c0 c1 c2 hb hal x7 wr
          have Hdif := Lib.hid (show l.difB ⟨db, dl, dk⟩ = (decide (0 ≤ db ∧ db ≤ (m : Int) - 1) && ((l.bags.getD db.toNat default).opened && (decide (-1000000000000 ≤ dl ∧ dl ≤ 1000000000000) &&
            (decide (dk = (l.bags.getD db.toNat default).broken) && !(dl == 0 && !dk))))) by unfold Led.difB; rw [Hm.out])
          generalize hdf : l.difB ⟨db, dl, dk⟩ = df at *
          clear hdf
          go_cut [126] (fun z W => z = .bool (!df) ∧ Below V.heap.size V W)
          case first =>
            clear HB HG Hdj Hj
            have hu1 : ∀ b : Bool, (some undef = some (Value.bool b)) = False := fun b => by simp [undef]
            have hu2 : ∀ b : Bool, (undef = Value.bool b) = False := fun b => by simp [undef]
            refine Dr.wp_region_plan 54 [] (.q [0, 1, 2, 3, 4, 5] (.e1 6 (.q [7, 8, 9, 10, 11, 12, 13, 14, 15, 16, 17, 18, 19, 20] (.e1 21 (.q [22, 23, 24, 25, 26, 27, 28, 29, 30, 31, 32, 33, 34, 35, 36, 37] (.q [38, 39, 40, 41, 42, 43, 44, 45, 46, 47, 48, 49, 50, 51, 52, 53] .done)))))) (by kernel_rfl) (by kernel_rfl) ?_
            have hbd := (ext_drew V)
            have hb3 := ext_trans hb2 hbd
            have hU2 := hU.ext hbd
            clear hb2 hU
            generalize World.drew _ = V2 at *
            have x1 := Dr.cell0 ((hX1.ext hb3).cell (i := 1) rfl)
            have u0 := Dr.cell0 (hU2.cell (i := 0) rfl)
            have u1 := Dr.cell0 (hU2.cell (i := 1) rfl)
            have u2 := Dr.cell0 (hU2.cell (i := 2) rfl)
            have C1 := Lib.hid (CI.out db 0 ((m : Int) - 1))
            have C2 := Lib.hid (CI.out dl (-1000000000000) 1000000000000)
            generalize hw1 : decide (0 ≤ db ∧ db ≤ (m : Int) - 1) = w1 at *
            generalize decide (-1000000000000 ≤ dl ∧ dl ≤ 1000000000000) = w2 at *
            have Hw1 := Lib.hid hw1
            clear hw1
            refine Dr.plan_q (l := [_, _, _, _, _, _]) rfl (fun K hK => ?_)
            iterate 6 (go_big_quiet_step (fail))
            refine wpQuiet_nil (hK _ ?_); clear hK K
            refine Dr.plan_e rfl (by rfl) (fun K hK => ?_)
            go_wp2_with fail
            refine (C1.out _).mono ?_; rintro r w9 ⟨rfl, rfl⟩
            go_wp2
            refine hK _ _ (Dr.Bel.refl _ _) ?_; clear hK K
            cases w1
            · skip
              refine Dr.plan_q (l := [_, _, _, _, _, _, _, _, _, _, _, _, _, _]) rfl (fun K hK => ?_)
              iterate 14 (go_big_quiet_step (fail))
              refine wpQuiet_nil (hK _ ?_); clear hK K
              with_reducible refine Dr.plan_e_skip (by with_unfolding_all exact rfl) (by with_unfolding_all rfl) ?_
              go_frame
              with_reducible refine Dr.plan_q (l := [_, _, _, _, _, _, _, _, _, _, _, _, _, _, _, _]) (by with_unfolding_all exact rfl) (fun K hK => ?_)
              iterate 16 (go_big_quiet_step (fail))
              refine wpQuiet_nil (hK _ ?_); clear hK K
              with_reducible refine Dr.plan_q (l := [_, _, _, _, _, _, _, _, _, _, _, _, _, _, _, _]) (by with_unfolding_all exact rfl) (fun K hK => ?_)
              iterate 16 (go_big_quiet_step (fail))
              refine wpQuiet_nil (hK _ ?_); clear hK K
              refine Dr.plan_end rfl ?_
              go_wp2
              go_meet
              case rel => exact ⟨congrArg Value.bool (by rw [Hdif.out]; rfl), hbd⟩
            have hdb := of_decide_eq_true Hw1.out
            obtain ⟨bi, rfl⟩ : ∃ bi : Nat, db = bi := ⟨db.toNat, by omega⟩
            have hbi : bi < m := by omega
            have hbi' : (bi : Int) < (m : Int) := by omega
            have hbl : bi < l.bags.length := by rw [Hm.out]; exact hbi
            obtain ⟨b', off', rfl, -, d0, d1, d2, d3, d4, d5⟩ := (hM1.ext hb3).b.at6 hbl rfl
            have hbg : l.bags.getD (bi : Int).toNat default = l.bags[bi] := by simp [hbl]
            rw [hbg] at Hdif
            generalize l.bags[bi] = y at *
            clear hbg d0 d2 d3
            obtain ⟨y0, y1, y2, y3, y4, y5⟩ := y
            simp only at d1 d4 d5 Hdif
            have r1 := Dr.cell0 d1
            have r4 := Dr.cell0 d4
            have r5 := Dr.cell0 d5
            clear d1 d4 d5
            cases y5
            · skip
              refine Dr.plan_q (l := [_, _, _, _, _, _, _, _, _, _, _, _, _, _]) rfl (fun K hK => ?_)
              iterate 14 (go_big_quiet_step (fail))
              refine wpQuiet_nil (hK _ ?_); clear hK K
              with_reducible refine Dr.plan_e_skip (by with_unfolding_all exact rfl) (by with_unfolding_all rfl) ?_
              go_frame
              with_reducible refine Dr.plan_q (l := [_, _, _, _, _, _, _, _, _, _, _, _, _, _, _, _]) (by with_unfolding_all exact rfl) (fun K hK => ?_)
              iterate 16 (go_big_quiet_step (fail))
              refine wpQuiet_nil (hK _ ?_); clear hK K
              with_reducible refine Dr.plan_q (l := [_, _, _, _, _, _, _, _, _, _, _, _, _, _, _, _]) (by with_unfolding_all exact rfl) (fun K hK => ?_)
              iterate 16 (go_big_quiet_step (fail))
              refine wpQuiet_nil (hK _ ?_); clear hK K
              refine Dr.plan_end rfl ?_
              go_wp2
              go_meet
              case rel => exact ⟨congrArg Value.bool (by rw [Hdif.out]; rfl), hbd⟩
            refine Dr.plan_q (l := [_, _, _, _, _, _, _, _, _, _, _, _, _, _]) rfl (fun K hK => ?_)
            iterate 14 (go_big_quiet_step (fail))
            refine wpQuiet_nil (hK _ ?_); clear hK K
            refine Dr.plan_e rfl (by rfl) (fun K hK => ?_)
            go_wp2_with fail
            refine (C2.out _).mono ?_; rintro r w9 ⟨rfl, rfl⟩
            go_wp2
            refine hK _ _ (Dr.Bel.refl _ _) ?_; clear hK K
            cases w2
            · skip
              refine Dr.plan_q (l := [_, _, _, _, _, _, _, _, _, _, _, _, _, _, _, _]) rfl (fun K hK => ?_)
              iterate 16 (go_big_quiet_step (fail))
              refine wpQuiet_nil (hK _ ?_); clear hK K
              with_reducible refine Dr.plan_q (l := [_, _, _, _, _, _, _, _, _, _, _, _, _, _, _, _]) (by with_unfolding_all exact rfl) (fun K hK => ?_)
              iterate 16 (go_big_quiet_step (fail))
              refine wpQuiet_nil (hK _ ?_); clear hK K
              refine Dr.plan_end rfl ?_
              go_wp2
              go_meet
              case rel => exact ⟨congrArg Value.bool (by rw [Hdif.out]; rfl), hbd⟩
            by_cases hy : y4 = y1
            · have ey : (y4 == y1) = true := by simpa using hy
              have ey2 : (y4 != y1) = false := by simpa using hy
              have Hbr := Lib.hid hy
              clear hy
              cases dk
              · by_cases hl : dl = 0
                · subst hl
                  refine Dr.plan_q (l := [_, _, _, _, _, _, _, _, _, _, _, _, _, _, _, _]) rfl (fun K hK => ?_)
                  iterate 16 (go_big_quiet_step (fail))
                  refine wpQuiet_nil (hK _ ?_); clear hK K
                  refine Dr.plan_q (l := [_, _, _, _, _, _, _, _, _, _, _, _, _, _, _, _]) rfl (fun K hK => ?_)
                  iterate 16 (go_big_quiet_step (fail))
                  refine wpQuiet_nil (hK _ ?_); clear hK K
                  refine Dr.plan_end rfl ?_
                  go_wp2
                  go_meet
                  case rel => exact ⟨congrArg Value.bool (by rw [Hdif.out]; simp [Bag.broken, Hbr.out]), hbd⟩
                · have el : (dl == 0) = false := by simpa using hl
                  have Hl := Lib.hid hl
                  clear hl
                  refine Dr.plan_q (l := [_, _, _, _, _, _, _, _, _, _, _, _, _, _, _, _]) rfl (fun K hK => ?_)
                  iterate 16 (go_big_quiet_step (fail))
                  refine wpQuiet_nil (hK _ ?_); clear hK K
                  refine Dr.plan_q (l := [_, _, _, _, _, _, _, _, _, _, _, _, _, _, _, _]) rfl (fun K hK => ?_)
                  iterate 16 (go_big_quiet_step (fail))
                  refine wpQuiet_nil (hK _ ?_); clear hK K
                  refine Dr.plan_end rfl ?_
                  go_wp2
                  go_meet
                  case rel => exact ⟨congrArg Value.bool (by rw [Hdif.out]; simp [Bag.broken, Hbr.out, Hl.out]), hbd⟩
              · skip
                refine Dr.plan_q (l := [_, _, _, _, _, _, _, _, _, _, _, _, _, _, _, _]) rfl (fun K hK => ?_)
                iterate 16 (go_big_quiet_step (fail))
                refine wpQuiet_nil (hK _ ?_); clear hK K
                with_reducible refine Dr.plan_q (l := [_, _, _, _, _, _, _, _, _, _, _, _, _, _, _, _]) (by with_unfolding_all exact rfl) (fun K hK => ?_)
                iterate 16 (go_big_quiet_step (fail))
                refine wpQuiet_nil (hK _ ?_); clear hK K
                refine Dr.plan_end rfl ?_
                go_wp2
                go_meet
                case rel => exact ⟨congrArg Value.bool (by rw [Hdif.out]; simp [Bag.broken, Hbr.out]), hbd⟩
            · have ey : (y4 == y1) = false := by simpa using hy
              have ey2 : (y4 != y1) = true := by simpa using hy
              have Hbr := Lib.hid hy
              clear hy
              cases dk
              · skip
                refine Dr.plan_q (l := [_, _, _, _, _, _, _, _, _, _, _, _, _, _, _, _]) rfl (fun K hK => ?_)
                iterate 16 (go_big_quiet_step (fail))
                refine wpQuiet_nil (hK _ ?_); clear hK K
                with_reducible refine Dr.plan_q (l := [_, _, _, _, _, _, _, _, _, _, _, _, _, _, _, _]) (by with_unfolding_all exact rfl) (fun K hK => ?_)
                iterate 16 (go_big_quiet_step (fail))
                refine wpQuiet_nil (hK _ ?_); clear hK K
                refine Dr.plan_end rfl ?_
                go_wp2
                go_meet
                case rel => exact ⟨congrArg Value.bool (by rw [Hdif.out]; simp [Bag.broken, Hbr.out]), hbd⟩
              · by_cases hl : dl = 0
                · subst hl
                  refine Dr.plan_q (l := [_, _, _, _, _, _, _, _, _, _, _, _, _, _, _, _]) rfl (fun K hK => ?_)
                  iterate 16 (go_big_quiet_step (fail))
                  refine wpQuiet_nil (hK _ ?_); clear hK K
                  refine Dr.plan_q (l := [_, _, _, _, _, _, _, _, _, _, _, _, _, _, _, _]) rfl (fun K hK => ?_)
                  iterate 16 (go_big_quiet_step (fail))
                  refine wpQuiet_nil (hK _ ?_); clear hK K
                  refine Dr.plan_end rfl ?_
                  go_wp2
                  go_meet
                  case rel => exact ⟨congrArg Value.bool (by rw [Hdif.out]; simp [Bag.broken, Hbr.out]), hbd⟩
                · have el : (dl == 0) = false := by simpa using hl
                  have Hl := Lib.hid hl
                  clear hl
                  refine Dr.plan_q (l := [_, _, _, _, _, _, _, _, _, _, _, _, _, _, _, _]) rfl (fun K hK => ?_)
                  iterate 16 (go_big_quiet_step (fail))
                  refine wpQuiet_nil (hK _ ?_); clear hK K
                  refine Dr.plan_q (l := [_, _, _, _, _, _, _, _, _, _, _, _, _, _, _, _]) rfl (fun K hK => ?_)
                  iterate 16 (go_big_quiet_step (fail))
                  refine wpQuiet_nil (hK _ ?_); clear hK K
                  refine Dr.plan_end rfl ?_
                  go_wp2
                  go_meet
                  case rel => exact ⟨congrArg Value.bool (by rw [Hdif.out]; simp [Bag.broken, Hbr.out, Hl.out]), hbd⟩
          case rest =>
            obtain ⟨rfl, hb3⟩ := hcut
            generalize wc = V2 at *
            have hb4 := ext_trans hb2 hb3
            have hU2 := hU.ext hb3
            clear hb2 hb3 hU
            cases df
            · have HY := Lib.hid (HB.out (by rw [Hdj.out]; rfl))
              go_wp2
              go_ret
              exact ⟨ret_congr (bool_congr HY.out), ext_trans hbw1 hb4⟩
            · go_wp2
              go_loopw [6] (fun x wr => ∃ i : Nat, x = .int .i64 i ∧ i ≤ j ∧ Hid (seenB l.diffs i db = false) ∧ Below V2.heap.size V2 wr) (fun x _ => j - (intOf x).toNat)
              case atStart => exact ⟨0, rfl, by omega, Lib.hid (by simp [seenB]), Below.refl _ _⟩
              case round =>
                obtain ⟨i, rfl, hi, Hi, hb⟩ := hrel
                by_cases hij : i < j
                · have hij' : (i : Int) < j := by omega
                  have hil : i < l.diffs.length := by omega
                  have hiq : (i : Int) < q := by omega
                  have Hs := Lib.hid (seen_succ hil db)
                  obtain ⟨o', p', e', -, c0, -, -⟩ := (hM1.ext (ext_trans hb4 hb)).d.at3 hil rfl
                  obtain ⟨rfl, rfl⟩ : o' = o ∧ p' = p := by simpa using e'.symm
                  have HB2 := Lib.hid (fun (h : seenB l.diffs (i + 1) db = true) => HB.out (by rw [Hdj.out, seen_mono (by omega : i + 1 ≤ j) h]; rfl))
                  generalize (l.diffs[i]).bag = ib at *
                  go_upto_region 17 with fail
                  refine Dr.wp_region_plan 9 [] (.q [0, 1, 2, 3, 4, 5, 6, 7, 8] .done) (by kernel_rfl) (by kernel_rfl) ?_
                  have hbd := hb.drew
                  have hcd : (World.drew wr).cell? ⟨o', p' + i * 3, none⟩ = some (.int .i64 ib) := c0
                  clear c0
                  generalize World.drew _ = V3 at *
                  have u0 := Dr.cell0 ((hU2.ext hbd).cell (i := 0) rfl)
                  have x7 := Dr.cell0 ((hX1.ext (ext_trans hb4 hbd)).cell (i := 7) rfl)
                  have u1 := Dr.cell0 hcd
                  by_cases hd : ib = db
                  · have e0 : (ib == db) = true := by simpa using hd
                    have HY := Lib.hid (HB2.out (by rw [Hs.out, e0]; simp))
                    clear hd
                    refine Dr.plan_q (l := [_, _, _, _, _, _, _, _, _]) rfl (fun K hK => ?_)
                    iterate 9 (go_big_quiet_step (fail))
                    refine wpQuiet_nil (hK _ ?_); clear hK K
                    refine Dr.plan_end rfl ?_
                    go_wp2
                    go_ret
                    exact ⟨ret_congr (bool_congr HY.out), ext_trans hbw1 (ext_trans hb4 hbd)⟩
                  · have e0 : (ib == db) = false := by simpa using hd
                    have HN := Lib.hid (show seenB l.diffs (i + 1) db = false by rw [Hs.out, Hi.out, e0]; rfl)
                    clear hd
                    refine Dr.plan_q (l := [_, _, _, _, _, _, _, _, _]) rfl (fun K hK => ?_)
                    iterate 9 (go_big_quiet_step (fail))
                    refine wpQuiet_nil (hK _ ?_); clear hK K
                    refine Dr.plan_end rfl ?_
                    go_wp2
                    go_roundw
                    case rel => exact ⟨i + 1, by go_num, by omega, HN, hbd⟩
                    case measure => simp [intOf]; omega
                · obtain rfl : i = j := by omega
                  have HN := Lib.hid (HG.out (by rw [Hdj.out, Hi.out]; rfl))
                  go_wp2
                  go_roundw
                  case rel => exact ⟨i + 1, by go_num, by omega, HN, ext_trans hb4 hb⟩
                  case measure => simp [intOf]; omega
        · obtain rfl : j = q := by omega
          have hok := Hok3.out
          rw [all_good Hj.out, Bool.true_and] at hok
          have hmon : l.mon := ⟨of_decide_eq_true H2.out, of_decide_eq_true H3.out, of_decide_eq_true H5.out, of_decide_eq_true H6.out, fun y hy => of_decide_eq_true (List.all_eq_true.1 Hwin.out y hy), fun b hb => by
            have h := H7.out
            simp only [Bool.and_eq_true] at h
            obtain ⟨i, hi, rfl⟩ := List.getElem_of_mem hb
            have := List.all_eq_true.1 h.1 i (List.mem_range.2 (by rw [← Hm.out]; exact hi))
            unfold Led.bagB at this
            simp only [Bool.and_eq_true, decide_eq_true_eq, monB, List.getD_eq_getElem?_getD, List.getElem?_eq_getElem hi, Option.getD_some] at this
            obtain ⟨-, -, -, a1, a2, -⟩ := this
            exact ⟨a2, a1⟩⟩
          have CT1 := Lib.hid (fun W h => CT.out W h hmon)
          have hi1 := hmon.i
          have ho1 := hmon.t
          have hg1 := of_decide_eq_true H4.out
          have hM2 := hM1.ext hb
          clear CT hmon
          go_upto_region 19 with fail
          refine Dr.wp_region_plan 12 [] (.q [0, 2, 3, 4, 5, 6, 7, 8, 9] (.e1 1 (.q [10, 11] .done))) (by kernel_rfl) (by kernel_rfl) ?_
          have hbd := hb.drew
          clear x7 hb hM2
          generalize World.drew _ = V3 at *
          have hM3 := hM1.ext hbd
          have hX3 := hX1.ext hbd
          have x0 := Dr.cell0 (hX3.cell (i := 0) rfl)
          have x1 := Dr.cell0 (hX3.cell (i := 1) rfl)
          have x2 := Dr.cell0 (hX3.cell (i := 2) rfl)
          have x3 := Dr.cell0 (hX3.cell (i := 3) rfl)
          have x4 := Dr.cell0 (hX3.cell (i := 4) rfl)
          have x5 := Dr.cell0 (hX3.cell (i := 5) rfl)
          have x6 := Dr.cell0 (hX3.cell (i := 6) rfl)
          have x7 := Dr.cell0 (hX3.cell (i := 7) rfl)
          generalize l.begun = bg at *
          generalize l.inn = inn at *
          generalize l.out = out at *
          generalize l.total = tot at *
          have es : wrap64 0 = 0 := by unfold wrap64; omega
          refine Dr.plan_q (l := [_, _, _, _, _, _, _, _, _]) rfl (fun K hK => ?_)
          iterate 9 (go_big_quiet_step (fail))
          refine wpQuiet_nil (hK _ ?_); clear hK K
          refine Dr.plan_e rfl (by rfl) (fun K hK => ?_)
          go_wp2_with fail
          refine (CT1.out _ hM3).mono ?_; rintro r w9 ⟨rfl, hb9⟩
          go_wp2
          refine hK _ _ (.of hb9) ?_; clear hK K
          by_cases ht : tot = bg + inn - out
          · have et : (tot == bg + inn - out) = true := by simpa using ht
            have HY := Lib.hid (show true = res by rw [hok]; simp [ht])
            clear ht
            refine Dr.plan_q (l := [_, _]) rfl (fun K hK => ?_)
            iterate 2 (go_big_quiet_step (fail))
            refine wpQuiet_nil (hK _ ?_); clear hK K
            refine Dr.plan_end rfl ?_
            go_wp2
            go_ret
            exact ⟨ret_congr (bool_congr HY.out), ext_trans hbw1 (ext_trans hbd hb9)⟩
          · have et : (tot == bg + inn - out) = false := by simpa using ht
            have HY := Lib.hid (show false = res by rw [hok]; simp [ht])
            clear ht
            refine Dr.plan_q (l := [_, _]) rfl (fun K hK => ?_)
            iterate 2 (go_big_quiet_step (fail))
            refine wpQuiet_nil (hK _ ?_); clear hK K
            refine Dr.plan_end rfl ?_
            go_wp2
            go_ret
            exact ⟨ret_congr (bool_congr HY.out), ext_trans hbw1 (ext_trans hbd hb9)⟩
end Go.Proofs.YtnjdlhhgnamigaaGreat

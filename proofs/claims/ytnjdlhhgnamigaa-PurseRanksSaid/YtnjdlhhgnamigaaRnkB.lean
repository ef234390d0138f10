/- The law PurseRanks: who comes behind one that is short gets nothing. -/
import Derived.Test.YtnjdlhhgnamigaaAwB
import Derived.Test.YtnjdlhhgnamigaaSetW
import Derived.Test.YtnjdlhhgnamigaaSetH
namespace Go.Proofs.Ytnjdlhhgnamigaa
open Go.RowKit Go.Bs Go.Pu Go.Pl Go.Sort

/-- is something short, of the premium or of the first k wages? -/
def _root_.Go.Pu.Wk.lk (w : Wk) : Nat → Bool
  | 0 => decide (0 < w.premium - w.prem)
  | k + 1 => w.lk k || decide (0 < (ctr w k).wage - w.paid k)
theorem lk_left {w : Wk} (h : w.ok) : ∀ {k : Nat}, k ≤ w.ctrs.length → w.lk k = true → w.left = 0
  | 0, _, hl => h.lack_left (of_decide_eq_true hl)
  | k + 1, hk, hl => by
    have hl : (w.lk k || decide (0 < (ctr w k).wage - w.paid k)) = true := hl
    rw [Bool.or_eq_true, decide_eq_true_eq] at hl
    rcases hl with hl | hl
    · exact lk_left h (by omega) hl
    · exact (h.paid (by omega)).2 hl
/-- does k come behind i? -/
def latB (ri rk : Int) (i k : Nat) : Bool := decide (ri < rk) || (decide (rk = ri) && decide (i < k))
set_option maxRecDepth 100000 in
set_option maxHeartbeats 4000000 in
theorem ranks_law (wk : Wk) (A B : Option Addr) (n c m d : Nat) (w : World) (hn : wk.ctys.length = n) (hm : wk.ctrs.length = m) (hA : Cells w A 4 Cty.enc wk.ctys) (hB : Cells w B 3 Ctr.enc wk.ctrs) (h1 : n ≤ 9223372036854775807) (h2 : m ≤ 9223372036854775807) :
    Calls Try.prog 6 #[wkV A n c wk.premium B m d] w fun e w' => e = .returned (.bool true) ∧ Below w.heap.size w w' := by
  have hb0 := ext_alloc w (.cells #[.slice A n c, .int .i64 wk.premium, .slice B m d] 25)
  have hX0 := Blk.new w 25 [.slice A n c, .int .i64 wk.premium, .slice B m d]
  have hA0 := hA.ext hb0
  have hB0 := hB.ext hb0
  have CW := Lib.hid (fun W h1 h2 hA hB => Week_put wk A B n c m d W hn hm h1 h2 hA hB)
  have CS := Lib.hid (fun A B c d W hA hB hok => settle_good wk A B n c m d W hn hm hA hB hok)
  have CR := Lib.hid (fun W hA hB => RightWeek_big wk A B n c m d W hn hm h1 h2 hA hB)
  clear hA hB
  have Hn := Lib.hid hn
  have Hm := Lib.hid hm
  clear hn hm
  unfold wkV at *
  unfold payV at *
  go_enter Try.func6, Try.ntmps6
  go_upto_region 1 with fail
  change Blk (w.alloc (.cells #[.slice A n c, .int .i64 wk.premium, .slice B m d] 25)) _ _ _ at hX0
  generalize w.alloc (.cells #[.slice A n c, .int .i64 wk.premium, .slice B m d] 25) = W0 at *
  have x0 : W0.cell? ⟨w.heap.size, 0, none⟩ = _ := hX0.cell (i := 0) rfl
  have x1 : W0.cell? ⟨w.heap.size, 1, none⟩ = _ := hX0.cell (i := 1) rfl
  have x2 : W0.cell? ⟨w.heap.size, 2, none⟩ = _ := hX0.cell (i := 2) rfl
  go_wp2_with fail
  refine (CR.out _ hA0 hB0).mono ?_; rintro e W1 ⟨rfl, hb1⟩
  have hbw1 := ext_trans hb0 hb1
  have hX1 := hX0.ext hb1
  have hA1 := hA0.ext hb1
  have hB1 := hB0.ext hb1
  clear hb0 hb1 hX0 hA0 hB0 CR x0 x1 x2
  cases hok : wk.okB
  · go_wp2_with fail
    refine (awake_any _).mono ?_; rintro e wz ⟨rfl, hbz⟩
    go_wp2
    go_ret
    exact ⟨rfl, ext_trans hbw1 hbz⟩
  have hk := (wk.okB_iff).1 hok
  have hn8 : n ≤ 8 := by rw [← Hn.out]; exact hk.n.2
  have hn1 : 1 ≤ n := by rw [← Hn.out]; exact hk.n.1
  have hm20 : m ≤ 20 := by rw [← Hm.out]; exact hk.m
  have CS1 := Lib.hid (fun A B c d W hA hB => CS.out A B c d W hA hB hok)
  clear CS
  have x0 : W1.cell? ⟨w.heap.size, 0, none⟩ = _ := hX1.cell (i := 0) rfl
  have x1 : W1.cell? ⟨w.heap.size, 1, none⟩ = _ := hX1.cell (i := 1) rfl
  have x2 : W1.cell? ⟨w.heap.size, 2, none⟩ = _ := hX1.cell (i := 2) rfl
  go_wp2_with fail
  refine (CW.out _ (by omega) (by omega) hA1 hB1).mono ?_; rintro e W2 ⟨A2, c2, B2, d2, rfl, fa, fb, -, -, hb2⟩
  have hbw2 := ext_trans hbw1 hb2
  have hX2 := hX1.ext hb2
  have hA2 := hA1.ext hb2
  have hB2 := hB1.ext hb2
  clear hbw1 hb2 hX1 hA1 hB1 CW x0 x1 x2
  go_wp2_with fail
  refine (CS1.out A2 B2 c2 d2 _ fa fb).mono ?_; rintro e W3 ⟨G1, z1, G2, z2, G3, z3, G4, z4, G5, z5, rfl, hP, hb3⟩
  have hbw3 := ext_trans hbw2 hb3
  have hX3 := hX2.ext hb3
  have hA3 := hA2.ext hb3
  have hB3 := hB2.ext hb3
  clear hbw2 hb3 hX2 hA2 hB2 CS1 fa fb
  have hpl := hk.prem
  have hrest := hk.rest
  have hprm := hk.pr
  have Hlk := Lib.hid (fun k hkk hl => lk_left hk (k := k) hkk hl)
  have Hno := Lib.hid (fun hl => Wk.none_rest (w := wk) hl)
  have H0 := Lib.hid (show wk.lk 0 = decide (0 < wk.premium - wk.prem) from rfl)
  have Hlp := Lib.hid (fun hl i => hk.lack_paid hl i)
  generalize wk.settle.rest = rest at *
  generalize wk.prem = prem at *
  generalize wk.premium - prem = lack at *
  have hY := Blk.new W3 29 [.slice G1 n z1, .slice G2 n z2, .int .i64 prem, .int .i64 lack, .slice G3 m z3, .slice G4 m z4, .slice G5 m z5, .int .i64 rest]
  have hAl := ext_alloc W3 (.cells #[.slice G1 n z1, .slice G2 n z2, .int .i64 prem, .int .i64 lack, .slice G3 m z3, .slice G4 m z4, .slice G5 m z5, .int .i64 rest] 29)
  have hbw4 := ext_trans hbw3 hAl
  have hX4 := hX3.ext hAl
  have hB4 := hB3.ext hAl
  have hP4 := hP.ext hAl
  clear hbw3 hX3 hA3 hB3 hP hAl
  go_upto_region 4 with fail
  change Blk (W3.alloc (.cells #[.slice G1 n z1, .slice G2 n z2, .int .i64 prem, .int .i64 lack, .slice G3 m z3, .slice G4 m z4, .slice G5 m z5, .int .i64 rest] 29)) _ _ _ at hY
  generalize W3.heap.size = Y at *
  generalize W3.alloc (.cells #[.slice G1 n z1, .slice G2 n z2, .int .i64 prem, .int .i64 lack, .slice G3 m z3, .slice G4 m z4, .slice G5 m z5, .int .i64 rest] 29) = W4 at *
  have x0 : W4.cell? ⟨w.heap.size, 0, none⟩ = _ := hX4.cell (i := 0) rfl
  have x1 : W4.cell? ⟨w.heap.size, 1, none⟩ = _ := hX4.cell (i := 1) rfl
  have x2 : W4.cell? ⟨w.heap.size, 2, none⟩ = _ := hX4.cell (i := 2) rfl
  have y0 : W4.cell? ⟨Y, 0, none⟩ = _ := hY.cell (i := 0) rfl
  have y1 : W4.cell? ⟨Y, 1, none⟩ = _ := hY.cell (i := 1) rfl
  have y2 : W4.cell? ⟨Y, 2, none⟩ = _ := hY.cell (i := 2) rfl
  have y3 : W4.cell? ⟨Y, 3, none⟩ = _ := hY.cell (i := 3) rfl
  have y4 : W4.cell? ⟨Y, 4, none⟩ = _ := hY.cell (i := 4) rfl
  have y5 : W4.cell? ⟨Y, 5, none⟩ = _ := hY.cell (i := 5) rfl
  have y6 : W4.cell? ⟨Y, 6, none⟩ = _ := hY.cell (i := 6) rfl
  have y7 : W4.cell? ⟨Y, 7, none⟩ = _ := hY.cell (i := 7) rfl
  go_wp2
  clear x0 x1 x2 y0 y1 y2 y3 y4 y5 y6 y7
  generalize decide (0 < lack) = L0 at *
  go_loopw [5, 6, 7, 8] (fun s x _ _ wr => ∃ (k : Nat), s = .bool (wk.lk k) ∧ x = .int .i64 k ∧ k ≤ m ∧ Below W4.heap.size W4 wr) (fun _ x _ _ _ => m - (intOf x).toNat)
  case atStart => exact ⟨0, by rw [H0.out], rfl, by omega, Below.refl _ _⟩
  case round =>
    obtain ⟨k, rfl, rfl, hkm, hb⟩ := hrel
    have yy : wr.cell? ⟨w.heap.size, 2, none⟩ = _ := (hX4.ext hb).cell (i := 2) rfl
    by_cases hlt : k < m
    · have hlt' : (k : Int) < m := by omega
      have kc : k < wk.ctrs.length := by rw [Hm.out]; exact hlt
      have hk1 : wk.lk (k + 1) = (wk.lk k || decide (0 < (ctr wk k).wage - wk.paid k)) := rfl
      have Hk1 := Lib.hid hk1
      clear hk1
      have Hlat := Lib.hid (fun (j : Nat) (hj : j < wk.ctrs.length) (hs : 0 < (ctr wk k).wage - wk.paid k) (hb : wk.bef k j) => hk.later kc hj hs hb)
      go_upto_region 10 with fail
      obtain ⟨o2, p2, rfl, D2⟩ := hP4.at_s kc
      obtain ⟨o1, p1, rfl, D1⟩ := hP4.at_p kc
      have d2 := cell_ext D2 hb
      have d1 := cell_ext D1 hb
      have Hpk := Lib.hid (fun hl => Hlp.out hl k)
      generalize (ctr wk k).wage - wk.paid k = sh at *
      generalize wk.paid k = pk at *
      generalize wk.lk k = L at *
      have y5 : wr.cell? ⟨Y, 5, none⟩ = _ := (hY.ext hb).cell (i := 5) rfl
      go_cut [5] (fun z W => z = .bool (wk.lk (k + 1)) ∧ wr = W)
      case first =>
        cases L
        · by_cases hs : 0 < sh
          · go_wp2
            go_meet
            case rel => exact ⟨by rw [Hk1.out]; simp [hs], rfl⟩
          · go_wp2
            go_meet
            case rel => exact ⟨by rw [Hk1.out]; simp [hs], rfl⟩
        · go_wp2
          go_meet
          case rel => exact ⟨by rw [Hk1.out]; simp, rfl⟩
      case rest =>
        obtain ⟨rfl, rfl⟩ := hcut
        have y3 : wr.cell? ⟨Y, 3, none⟩ = _ := (hY.ext hb).cell (i := 3) rfl
        have y4 : wr.cell? ⟨Y, 4, none⟩ = _ := (hY.ext hb).cell (i := 4) rfl
        go_upto_region 11 with fail
        go_cut [78] (fun z W => z = .bool false ∧ wr = W)
        case first =>
          by_cases hl : 0 < lack
          · have h0 := Hpk.out hl
            have hp0 : ¬ 0 < pk := by omega
            clear h0
            go_wp2
            go_meet
            case rel => exact ⟨rfl, rfl⟩
          · go_wp2
            go_meet
            case rel => exact ⟨rfl, rfl⟩
        case rest =>
          obtain ⟨rfl, rfl⟩ := hcut
          clear y3 y4 y5 yy d1 d2
          generalize hLL : wk.lk (k + 1) = LL
          have HLL := Lib.hid hLL
          clear hLL
          go_wp2
          go_loopw [7, 8] (fun x _ wq => ∃ (j : Nat), x = .int .i64 j ∧ j ≤ m ∧ Below W4.heap.size W4 wq) (fun x _ _ => m - (intOf x).toNat)
          case atStart => exact ⟨0, rfl, by omega, hb⟩
          case round =>
            clear hb
            obtain ⟨j, rfl, hjm, hb⟩ := hrel
            generalize wr = V at *
            have xx : V.cell? ⟨w.heap.size, 2, none⟩ = _ := (hX4.ext hb).cell (i := 2) rfl
            by_cases hlt2 : j < m
            · have hlt2' : (j : Int) < m := by omega
              have jc : j < wk.ctrs.length := by rw [Hm.out]; exact hlt2
              have Hlj := Lib.hid (fun hs hb => Hlat.out j jc hs hb)
              have Hbf := Lib.hid (show latB (ctr wk k).rank (ctr wk j).rank k j = true → wk.bef k j by
                unfold Wk.bef latB
                rw [Bool.or_eq_true, Bool.and_eq_true, decide_eq_true_eq, decide_eq_true_eq, decide_eq_true_eq]
                rintro (h | ⟨h3, h4⟩)
                · exact .inl h
                · exact .inr ⟨h3.symm, h4⟩)
              go_upto_region 16 with fail
              clear xx
              obtain ⟨o3, p3, rfl, r1, -, -⟩ := ctr_at (hB4.ext hb) kc
              obtain ⟨o4, p4, ho4, r2, -, -⟩ := ctr_at (hB4.ext hb) jc
              obtain ⟨rfl, rfl⟩ : o3 = o4 ∧ p3 = p4 := by simpa using ho4
              generalize (ctr wk k).rank = ri at *
              generalize (ctr wk j).rank = rj at *
              go_cut [8] (fun z W => z = .bool (latB ri rj k j) ∧ Below W4.heap.size W4 W)
              case first =>
                refine Dr.wp_region_plan 34 [] (.q [0, 1, 2, 3, 4, 5, 6, 7, 8, 9, 10, 11, 12, 13, 14, 15, 16, 17, 18, 19, 20, 21, 22, 23] (.q [24, 25, 26, 27, 28, 29, 30, 31, 32, 33] .done)) (by kernel_rfl) (by kernel_rfl) ?_
                have hb2 := hb.drew
                have r3 : (World.drew V).cell? ⟨o3, p3 + k * 3, none⟩ = some (.int .i64 ri) := r1
                have r4 : (World.drew V).cell? ⟨o3, p3 + j * 3, none⟩ = some (.int .i64 rj) := r2
                clear r1 r2 hb
                generalize World.drew _ = V2 at *
                have u1 := Dr.cell0 r3
                have u2 := Dr.cell0 r4
                have xx := Dr.cell0 ((hX4.ext hb2).cell (i := 2) rfl)
                by_cases c1 : ri < rj
                · refine Dr.plan_q (l := [_, _, _, _, _, _, _, _, _, _, _, _, _, _, _, _, _, _, _, _, _, _, _, _]) rfl (fun K hK => ?_)
                  iterate 24 (go_big_quiet_step (fail))
                  refine wpQuiet_nil (hK _ ?_); clear hK K
                  with_reducible refine Dr.plan_q (l := [_, _, _, _, _, _, _, _, _, _]) (by with_unfolding_all exact rfl) (fun K hK => ?_)
                  iterate 10 (go_big_quiet_step (fail))
                  refine wpQuiet_nil (hK _ ?_); clear hK K
                  refine Dr.plan_end rfl ?_
                  go_wp2
                  go_meet
                  case rel => exact ⟨by simp [latB, c1], hb2⟩
                · by_cases c2 : rj = ri
                  · by_cases c3 : k < j
                    · have c3' : (k : Int) < j := by omega
                      refine Dr.plan_q (l := [_, _, _, _, _, _, _, _, _, _, _, _, _, _, _, _, _, _, _, _, _, _, _, _]) rfl (fun K hK => ?_)
                      iterate 24 (go_big_quiet_step (fail))
                      refine wpQuiet_nil (hK _ ?_); clear hK K
                      with_reducible refine Dr.plan_q (l := [_, _, _, _, _, _, _, _, _, _]) (by with_unfolding_all exact rfl) (fun K hK => ?_)
                      iterate 10 (go_big_quiet_step (fail))
                      refine wpQuiet_nil (hK _ ?_); clear hK K
                      refine Dr.plan_end rfl ?_
                      go_wp2
                      go_meet
                      case rel => exact ⟨by simp [latB, c2, c3], hb2⟩
                    · have c3' : ¬ (k : Int) < j := by omega
                      refine Dr.plan_q (l := [_, _, _, _, _, _, _, _, _, _, _, _, _, _, _, _, _, _, _, _, _, _, _, _]) rfl (fun K hK => ?_)
                      iterate 24 (go_big_quiet_step (fail))
                      refine wpQuiet_nil (hK _ ?_); clear hK K
                      with_reducible refine Dr.plan_q (l := [_, _, _, _, _, _, _, _, _, _]) (by with_unfolding_all exact rfl) (fun K hK => ?_)
                      iterate 10 (go_big_quiet_step (fail))
                      refine wpQuiet_nil (hK _ ?_); clear hK K
                      refine Dr.plan_end rfl ?_
                      go_wp2
                      go_meet
                      case rel => exact ⟨by simp [latB, c2, c3], hb2⟩
                  · have c2' : (rj == ri) = false := by simpa using c2
                    refine Dr.plan_q (l := [_, _, _, _, _, _, _, _, _, _, _, _, _, _, _, _, _, _, _, _, _, _, _, _]) rfl (fun K hK => ?_)
                    iterate 24 (go_big_quiet_step (fail))
                    refine wpQuiet_nil (hK _ ?_); clear hK K
                    with_reducible refine Dr.plan_q (l := [_, _, _, _, _, _, _, _, _, _]) (by with_unfolding_all exact rfl) (fun K hK => ?_)
                    iterate 10 (go_big_quiet_step (fail))
                    refine wpQuiet_nil (hK _ ?_); clear hK K
                    refine Dr.plan_end rfl ?_
                    go_wp2
                    go_meet
                    case rel => exact ⟨by simp [latB, c1, c2], hb2⟩
              case rest =>
                clear hb r1 r2
                obtain ⟨rfl, hb⟩ := hcut
                obtain ⟨o5, p5, ho5, D5⟩ := hP4.at_p jc
                obtain ⟨rfl, rfl⟩ : o1 = o5 ∧ p1 = p5 := by simpa using ho5
                generalize wk.paid j = pj at *
                generalize hlb : latB ri rj k j = lb at *
                have Hlb := Lib.hid (fun hs (h : lb = true) => Hlj.out hs (Hbf.out h))
                clear hlb
                have y4 : wc.cell? ⟨Y, 4, none⟩ = _ := (hY.ext hb).cell (i := 4) rfl
                have y5 : wc.cell? ⟨Y, 5, none⟩ = _ := (hY.ext hb).cell (i := 5) rfl
                have d2 := cell_ext D2 hb
                have d5 := cell_ext D5 hb
                by_cases hs : 0 < sh
                · cases lb
                  · go_wp2
                    go_roundw
                    case rel => exact ⟨j + 1, by go_num, by omega, hb⟩
                    case measure => simp [intOf]; omega
                  · have h0 := Hlb.out hs rfl
                    have hp0 : ¬ 0 < pj := by omega
                    clear h0
                    go_wp2
                    go_roundw
                    case rel => exact ⟨j + 1, by go_num, by omega, hb⟩
                    case measure => simp [intOf]; omega
                · go_wp2
                  go_roundw
                  case rel => exact ⟨j + 1, by go_num, by omega, hb⟩
                  case measure => simp [intOf]; omega
            · obtain rfl : j = m := by omega
              go_wp2
              go_roundw
              case rel => exact ⟨k + 1, by rw [HLL.out], by go_num, by omega, hb⟩
              case measure => simp [intOf]; omega
    · obtain rfl : k = m := by omega
      have hl0 := Hlk.out k (by rw [Hm.out]; exact Nat.le_refl _)
      generalize wk.lk k = L at *
      have Hl0 := Lib.hid hl0
      clear hl0
      have hbw5 := ext_trans hbw4 hb
      have hX5 := hX4.ext hb
      have hP5 := hP4.ext hb
      have hY5 := hY.ext hb
      clear hbw4 hX4 hB4 hP4 hY hb
      go_wp2
      clear yy
      generalize wr = W5 at *
      go_loopw [9] (fun x wr => ∃ (q : Nat), x = .int .i64 q ∧ q ≤ k ∧ Below W5.heap.size W5 wr) (fun x _ => k - (intOf x).toNat)
      case atStart => exact ⟨0, rfl, by omega, Below.refl _ _⟩
      case round =>
        obtain ⟨q, rfl, hqm, hb⟩ := hrel
        have yy : wr.cell? ⟨w.heap.size, 2, none⟩ = _ := (hX5.ext hb).cell (i := 2) rfl
        by_cases hlt3 : q < k
        · have hlt3' : (q : Int) < k := by omega
          have qc : q < wk.ctrs.length := by rw [Hm.out]; exact hlt3
          have y6 : wr.cell? ⟨Y, 6, none⟩ = _ := (hY5.ext hb).cell (i := 6) rfl
          obtain ⟨o7, p7, rfl, d7⟩ := (hP5.ext hb).at_x qc
          cases L
          · go_wp2
            go_roundw
            case rel => exact ⟨q + 1, by go_num, by omega, hb⟩
            case measure => simp [intOf]; omega
          · have h0 := Wk.none_extra (Hl0.out rfl) q
            generalize wk.extra q = xq at *
            have hx0 : ¬ 0 < xq := by omega
            clear h0
            go_wp2
            go_roundw
            case rel => exact ⟨q + 1, by go_num, by omega, hb⟩
            case measure => simp [intOf]; omega
        · obtain rfl : q = k := by omega
          have y7 : wr.cell? ⟨Y, 7, none⟩ = _ := (hY5.ext hb).cell (i := 7) rfl
          cases L
          · go_wp2_with fail
            refine (awake_any _).mono ?_; rintro e wz ⟨rfl, hbz⟩
            go_wp2
            go_ret
            exact ⟨rfl, ext_trans (ext_trans hbw5 hb) hbz⟩
          · have h0 := Hno.out (Hl0.out rfl)
            rw [h0] at y7
            go_wp2_with fail
            refine (awake_any _).mono ?_; rintro e wz ⟨rfl, hbz⟩
            go_wp2
            go_ret
            exact ⟨rfl, ext_trans (ext_trans hbw5 hb) hbz⟩
end Go.Proofs.Ytnjdlhhgnamigaa

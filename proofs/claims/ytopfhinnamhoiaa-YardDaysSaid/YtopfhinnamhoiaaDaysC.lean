/- Walk: YardDays. -/
import Derived.Test.YtopfhinnamhoiaaDaysB
namespace Go.Proofs.Ytopfhinnamhoiaa
open Go.RowKit Go.Bs Go.Yd Go.Pl Go.Sort

def errE (d k : Int) (l : List Int) : Int := if !ruleB d k then 1 else if 60 < l.length then 3 else if !btwB 1440 l then 2 else 7
theorem days_err {d k : Int} {l : List Int} (h : errE d k l ≠ 7) : wearyR d k l = (0, 0, errE d k l) := by
  unfold errE at h ⊢
  unfold wearyR
  split
  · rfl
  · split
    · rfl
    · unfold btwB at h ⊢
      split
      · rfl
      · rename_i h1 h2 h3
        rw [if_neg h1, if_neg h2, if_neg h3] at h
        exact absurd rfl h
theorem days_fine {d k : Int} {l : List Int} (h : errE d k l = 7) : l.length ≤ 60 ∧ (∀ x ∈ l, 0 ≤ x ∧ x ≤ 1440) ∧ wearyR d k l = match (List.range l.length).find? (fun i => whyI d k (l.take (i + 1)) != 0) with
    | some i => (i, whyI d k (l.take (i + 1)), 0)
    | none => (0, 0, 7) := by
  unfold errE at h
  unfold wearyR
  split at h
  · simp at h
  · split at h
    · simp at h
    · split at h
      · simp at h
      · rename_i h1 h2 h3
        unfold btwB at h3
        refine ⟨by omega, fun x hx => ?_, by rw [if_neg h1, if_neg h2, if_neg h3]; rfl⟩
        simp only [Bool.not_eq_true, Bool.not_eq_false', List.all_eq_true, decide_eq_true_eq, Bool.not_eq_eq_eq_not, Bool.not_true, Bool.not_false] at h3
        have h4 : (l.all fun x => decide (0 ≤ x ∧ x ≤ 1440)) = true := by
          cases hq : (l.all fun x => decide (0 ≤ x ∧ x ≤ 1440))
          · rw [hq] at h3; simp at h3
          · rfl
        simpa using (List.all_eq_true.1 h4) x hx
set_option maxRecDepth 100000 in
set_option maxHeartbeats 4000000 in
theorem days_any (d k : Int) (A : Option Addr) (n c : Nat) (l : List Int) (w : World) (hn : l.length = n) (hm : n ≤ 9223372036854775807) (hd : Cells w A 1 encI l) :
    Calls Try.prog 3 #[.agg #[.int .i64 d, .int .i64 k], .slice A n c] w fun e w' => e = .returned (.bool true) ∧ Below w.heap.size w w' := by
  have hb0 := ext_alloc w (.cells #[.int .i64 d, .int .i64 k] 23)
  by_cases h70 : n ≤ 70
  · have h70' : (n : Int) ≤ 70 := by omega
    have hbx := Blk.new w 23 [.int .i64 d, .int .i64 k]
    have Hn := Lib.hid hn
    obtain ⟨r0, r1, r2, hR⟩ : ∃ r0 r1 r2, wearyR d k l = (r0, r1, r2) := ⟨_, _, _, rfl⟩
    have HR := Lib.hid hR
    clear hR
    go_enter Try.func3, Try.ntmps3
    go_upto_region 3 with fail
    change Blk (w.alloc (.cells #[.int .i64 d, .int .i64 k] 23)) w.heap.size 23 [.int .i64 d, .int .i64 k] at hbx
    generalize w.alloc (.cells #[.int .i64 d, .int .i64 k] 23) = W0 at *
    refine Dr.wp_region_plan 15 [] (.q [0, 1, 2, 3, 4, 5] (.e1 6 (.e1 7 (.q [8, 9, 10, 11, 12, 13, 14] .done)))) (by kernel_rfl) (by kernel_rfl) ?_
    have hb1 := hb0.drew
    have hb2 := hbx.ext (ext_drew W0)
    clear hb0 hbx
    generalize World.drew _ = W at *
    have q1 := Dr.cell0 (hb2.cell (i := 0) rfl)
    have q2 := Dr.cell0 (hb2.cell (i := 1) rfl)
    refine Dr.plan_q (l := [_, _, _, _, _, _]) rfl (fun K hK => ?_)
    iterate 6 (go_big_quiet_step (fail))
    refine wpQuiet_nil (hK _ ?_); clear hK K
    refine Dr.plan_e rfl (by rfl) (fun K hK => ?_)
    go_wp2_with fail
    refine (list_any A n c l W hn (by omega) (hd.ext hb1)).mono ?_; rintro e w1 ⟨v, rfl, hv, hb3⟩
    refine hK _ _ (.of hb3) ?_; clear hK K
    obtain ⟨A1, c1, rfl, hc1, -, hc2, -⟩ := hv
    rw [hn] at hc1 ⊢
    refine Dr.plan_e rfl (by rfl) (fun K hK => ?_)
    go_wp2_with fail
    refine (weary_any d k A1 n c1 l w1 hn hc1 hc2).mono ?_; rintro e w2 ⟨he, hb4⟩
    rw [HR.out] at he
    subst he
    refine hK _ _ (.of hb4) ?_; clear hK K
    simp only [tupW]
    refine Dr.plan_q (l := [_, _, _, _, _, _, _]) rfl (fun K hK => ?_)
    iterate 7 (go_big_quiet_step (fail))
    refine wpQuiet_nil (hK _ ?_); clear hK K
    refine Dr.plan_end rfl ?_
    have hb5 := ext_trans hb1 (ext_trans hb3 hb4)
    have hB := (hb2.ext hb3).ext hb4
    clear hb1 hb2 hb3 hb4 q1 q2 hc1 hc2
    go_upto_region 5 with fail
    have x0 := hB.cell (i := 0) rfl
    have x1 := hB.cell (i := 1) rfl
    go_wp2_with fail
    refine (RightRule_any d k w2).mono ?_; rintro e w3 ⟨rfl, hb6⟩
    have hb7 := ext_trans hb5 hb6
    have hB3 := hB.ext hb6
    clear hb5 hb6 hB x0 x1
    go_upto_if 29 with fail
    go_cut [8] (fun z W' => z = .int .i64 (errE d k l) ∧ Below w.heap.size w W' ∧ Blk W' w.heap.size 23 [.int .i64 d, .int .i64 k])
    case first =>
      cases hq : ruleB d k
      · have He := Lib.hid (show errE d k l = 1 by unfold errE; rw [hq]; rfl)
        clear hq
        go_wp2
        go_meet
        case rel => exact ⟨int_congr He.out.symm, hb7, hB3⟩
      · by_cases h60 : 60 < n
        · have He := Lib.hid (show errE d k l = 3 by unfold errE; rw [hq, if_neg (by simp), if_pos (by omega)])
          have h60' : (60 : Int) < n := by omega
          clear hq h60
          go_wp2
          go_meet
          case rel => exact ⟨int_congr He.out.symm, hb7, hB3⟩
        · have h60' : (n : Int) ≤ 60 := by omega
          cases hbt : btwB 1440 l
          · have He := Lib.hid (show errE d k l = 2 by unfold errE; rw [hq, if_neg (by simp), if_neg (by omega), hbt]; rfl)
            have HB := Lib.hid hbt
            clear hq h60 hbt
            go_wp2_with fail
            refine (Between_any A n c 1440 l w3 hn (by omega) (hd.ext hb7)).mono ?_; rintro e w4 ⟨rfl, hb8⟩
            rw [HB.out]
            go_wp2
            go_meet
            case rel => exact ⟨int_congr He.out.symm, ext_trans hb7 hb8, hB3.ext hb8⟩
          · have He := Lib.hid (show errE d k l = 7 by unfold errE; rw [hq, if_neg (by simp), if_neg (by omega), hbt]; rfl)
            have HB := Lib.hid hbt
            clear hq h60 hbt
            go_wp2_with fail
            refine (Between_any A n c 1440 l w3 hn (by omega) (hd.ext hb7)).mono ?_; rintro e w4 ⟨rfl, hb8⟩
            rw [HB.out]
            go_wp2
            go_meet
            case rel => exact ⟨int_congr He.out.symm, ext_trans hb7 hb8, hB3.ext hb8⟩
    case rest =>
      obtain ⟨rfl, hb8, hB8⟩ := hcut
      by_cases h7 : errE d k l = 7
      · rw [h7]
        obtain ⟨hl60, hrg, hw⟩ := days_fine h7
        rw [HR.out] at hw
        have Hw := Lib.hid hw
        clear h7 hw
        go_wp2
        go_loopw [9] (fun x wr => ∃ i : Nat, x = .int .i64 i ∧ i ≤ n ∧ Hid (∀ j, j < i → whyI d k (l.take (j + 1)) = 0) ∧ Below w.heap.size w wr ∧ Blk wr w.heap.size 23 [.int .i64 d, .int .i64 k]) (fun x _ => n - (intOf x).toNat)
        case atStart => exact ⟨0, rfl, by omega, Lib.hid (fun j hj => by omega), hb8, hB8⟩
        case round =>
          clear hb8 hB8
          obtain ⟨i, rfl, hi, Hz, hb8, hB8⟩ := hrel
          by_cases hlt : i < n
          · have hlt' : (i : Int) < n := by omega
            have x0 := hB8.cell (i := 0) rfl
            have x1 := hB8.cell (i := 1) rfl
            go_wp2_with fail
            refine (Why_any d k A n c i l _ hn (by omega) hlt hrg (hd.ext hb8)).mono ?_; rintro e w9 ⟨rfl, hb9⟩
            generalize hy : whyI d k (l.take (i + 1)) = y
            have Hy := Lib.hid hy
            clear hy
            by_cases hy0 : y = 0
            · have hy0' : (y != 0) = false := by simp [hy0]
              have Hy0 := Lib.hid hy0
              clear hy0
              go_wp2
              go_roundw
              case rel => exact ⟨i + 1, by go_num, by omega, Lib.hid (fun j hj => by
                by_cases e : j = i
                · subst e; rw [Hy.out, Hy0.out]
                · exact Hz.out j (by omega)), ext_trans hb8 hb9, hB8.ext hb9⟩
              case measure => simp [intOf]; omega
            · have hy0' : (y != 0) = true := by simp [hy0]
              have hf : (List.range l.length).find? (fun i => whyI d k (l.take (i + 1)) != 0) = some i := by
                rw [List.find?_range_eq_some]
                refine ⟨by rw [Hy.out]; exact hy0', by simp; omega, fun j hj => by rw [Hz.out j hj]; rfl⟩
              have hw := Hw.out
              rw [hf] at hw
              simp only [Prod.mk.injEq] at hw
              obtain ⟨rfl, rfl, rfl⟩ := hw
              rw [Hy.out]
              clear hf
              go_wp2_with fail
              refine (wakes_any _).mono ?_; rintro e w10 ⟨rfl, hb10⟩
              go_wp2
              go_ret
              exact ⟨rfl, ext_trans (ext_trans hb8 hb9) hb10⟩
          · obtain rfl : i = n := by omega
            have hf : (List.range l.length).find? (fun i => whyI d k (l.take (i + 1)) != 0) = none := by
              rw [List.find?_eq_none]
              intro j hj
              have := Hz.out j (by simp at hj; omega)
              simp [this]
            have hw := Hw.out
            rw [hf] at hw
            simp only [Prod.mk.injEq] at hw
            obtain ⟨rfl, rfl, rfl⟩ := hw
            clear hf
            go_wp2_with fail
            refine (wakes_any _).mono ?_; rintro e w10 ⟨rfl, hb10⟩
            go_wp2
            go_ret
            exact ⟨rfl, ext_trans hb8 hb10⟩
      · have hw := days_err h7
        rw [HR.out] at hw
        simp only [Prod.mk.injEq] at hw
        obtain ⟨rfl, rfl, rfl⟩ := hw
        generalize hE : errE d k l = E at *
        have hE7 : (E == 7) = false := by simpa using h7
        clear h7 HR hE
        by_cases h0 : 0 < n
        · have h0' : (0 : Int) < n := by omega
          go_wp2
          go_loopw [9] (fun x wr => x = .int .i64 0 ∧ Below w.heap.size w wr) (fun _ _ => 0)
          case atStart => exact ⟨rfl, hb8⟩
          case round =>
            obtain ⟨rfl, hb9⟩ := hrel
            go_wp2_with fail
            refine (wakes_any _).mono ?_; rintro e w9 ⟨rfl, hb10⟩
            go_wp2
            go_ret
            exact ⟨rfl, ext_trans hb9 hb10⟩
        · have h0' : (n : Int) ≤ 0 := by omega
          go_wp2
          go_loopw [9] (fun x wr => x = .int .i64 0 ∧ Below w.heap.size w wr) (fun _ _ => 0)
          case atStart => exact ⟨rfl, hb8⟩
          case round =>
            obtain ⟨rfl, hb9⟩ := hrel
            go_wp2_with fail
            refine (wakes_any _).mono ?_; rintro e w9 ⟨rfl, hb10⟩
            go_wp2
            go_ret
            exact ⟨rfl, ext_trans hb9 hb10⟩
  · have h70' : (70 : Int) < n := by omega
    clear hd hn
    go_enter Try.func3, Try.ntmps3
    go_wp2_with fail
    refine (wakes_any _).mono ?_; rintro e w1 ⟨rfl, hb1⟩
    go_wp2
    go_ret
    exact ⟨rfl, ext_trans hb0 hb1⟩
end Go.Proofs.Ytopfhinnamhoiaa

/- Walks: IsClimb, ProveClimb. (Printed by mk_clbs.py.) -/
import Derived.Test.YtbpmfaibcibleaaLhpA
import Derived.Test.YtbpmfaibcibleaaClbR
namespace Go.Wg
open Go.RowKit Go.Bs Go.Pl
instance (n : Nat) (l : List Int) : Decidable (InR n l) := inferInstanceAs (Decidable (∀ x ∈ l, 0 ≤ x ∧ x < (n : Int)))
/-- numbers and needs rise -/
def Climbs (ts : List Th) (l : List Int) : Prop := l.Pairwise fun a b => a < b ∧ (thAt ts a).need < (thAt ts b).need
instance (ts : List Th) (l : List Int) : Decidable (Climbs ts l) := inferInstanceAs (Decidable (List.Pairwise _ l))
def climbB (ts : List Th) (l : List Int) : Bool := decide (InR ts.length l) && decide (Climbs ts l)
theorem climbB_iff {ts : List Th} {l : List Int} : climbB ts l = true ↔ InR ts.length l ∧ Climbs ts l := by simp [climbB]
theorem climbs_take {ts : List Th} {l : List Int} (h : Climbs ts l) (k : Nat) : Climbs ts (l.take k) := List.Pairwise.sublist (List.take_sublist k l) h
theorem inR_take {n : Nat} {l : List Int} (h : InR n l) (k : Nat) : InR n (l.take k) := fun x hx => h x (List.mem_of_mem_take hx)
theorem climbs_succ {ts : List Th} {l : List Int} {k : Nat} (h : k + 1 < l.length) : Climbs ts (l.take (k + 1 + 1)) ↔ Climbs ts (l.take (k + 1)) ∧ (l[k] < l[k + 1] ∧ (thAt ts l[k]).need < (thAt ts l[k + 1]).need) := by
  unfold Climbs
  rw [List.take_succ_eq_append_getElem (i := k + 1) h, List.pairwise_append]
  constructor
  · rintro ⟨h1, -, h3⟩
    exact ⟨h1, h3 _ (by rw [List.mem_take_iff_getElem]; exact ⟨k, by omega, rfl⟩) _ (by simp)⟩
  · rintro ⟨h1, h2⟩
    refine ⟨h1, List.pairwise_singleton _ _, fun a ha b hb => ?_⟩
    simp only [List.mem_singleton] at hb
    subst hb
    rw [List.take_succ_eq_append_getElem (i := k) (by omega)] at ha h1
    rcases List.mem_append.1 ha with ha | ha
    · have h3 := (List.pairwise_append.1 h1).2.2 a ha _ (List.mem_singleton_self _)
      exact ⟨Int.lt_trans h3.1 h2.1, Int.lt_trans h3.2 h2.2⟩
    · simp only [List.mem_singleton] at ha
      rw [ha]; exact h2
/-- of the first k of a list -/
def ClTo (ts : List Th) (l : List Int) (k : Nat) : Prop := InR ts.length (l.take k) ∧ Climbs ts (l.take k)
theorem clTo_zero (ts : List Th) (l : List Int) : ClTo ts l 0 := ⟨by intro x hx; simp at hx, List.Pairwise.nil⟩
theorem clTo_one {ts : List Th} {l : List Int} (h : 0 < l.length) : ClTo ts l 1 ↔ (0 ≤ l[0] ∧ l[0] < ts.length) := by
  cases l with
  | nil => simp at h
  | cons a l => simp [ClTo, Climbs, InR]
theorem clTo_succ {ts : List Th} {l : List Int} {k : Nat} (h : k + 1 < l.length) : ClTo ts l (k + 1 + 1) ↔ ClTo ts l (k + 1) ∧ (0 ≤ l[k + 1] ∧ l[k + 1] < ts.length) ∧ (l[k] < l[k + 1] ∧ (thAt ts l[k]).need < (thAt ts l[k + 1]).need) := by
  unfold ClTo
  rw [climbs_succ h]
  have e : InR ts.length (l.take (k + 1 + 1)) ↔ InR ts.length (l.take (k + 1)) ∧ (0 ≤ l[k + 1] ∧ l[k + 1] < ts.length) := by
    rw [List.take_succ_eq_append_getElem (i := k + 1) h]
    unfold InR
    constructor
    · intro H
      exact ⟨fun x hx => H x (List.mem_append_left _ hx), H _ (List.mem_append_right _ (List.mem_singleton_self _))⟩
    · rintro ⟨H1, H2⟩ x hx
      rcases List.mem_append.1 hx with hx | hx
      · exact H1 x hx
      · rw [List.mem_singleton.1 hx]; exact H2
  rw [e]
  exact ⟨fun ⟨⟨a, b⟩, c, d⟩ => ⟨⟨a, c⟩, b, d⟩, fun ⟨⟨a, c⟩, b, d⟩ => ⟨⟨a, b⟩, c, d⟩⟩
theorem clTo_take {ts : List Th} {l : List Int} {n : Nat} (h : ClTo ts l n) (k : Nat) (hk : k ≤ n) : ClTo ts l k := by
  have e : l.take k = (l.take n).take k := by rw [List.take_take, Nat.min_eq_left hk]
  unfold ClTo
  rw [e]
  exact ⟨inR_take h.1 k, climbs_take h.2 k⟩
theorem clTo_end {ts : List Th} {l : List Int} : ClTo ts l l.length ↔ climbB ts l = true := by
  unfold ClTo
  rw [List.take_length, climbB_iff]
end Go.Wg
namespace Go.Proofs.Ytbpmfaibcibleaa
open Go.RowKit Go.Bs Go.Wg Go.Pl Go.Sort
set_option maxRecDepth 100000 in
set_option maxHeartbeats 4000000 in
theorem IsClimb_any (T : Option Addr) (m cT : Nat) (ts : List Th) (A : Option Addr) (n c : Nat) (l : List Int) (w : World) (hm : ts.length = m) (hm1 : m ≤ 1000000000) (ht : Cells w T 4 Th.enc ts) (hl : l.length = n) (hn : n ≤ 1000000000) (hd : Cells w A 1 Go.Bs.encI l) :
    Calls Try.prog 48 #[.slice T m cT, .slice A n c] w fun e w' => e = .returned (.bool (climbB ts l)) ∧ Below w.heap.size w w' := by
  have Hm := Lib.hid hm
  have Hl := Lib.hid hl
  generalize hres : climbB ts l = res
  have Hyes := Lib.hid (show ClTo ts l n → true = res from fun h => by rw [← hres, clTo_end.1 (by rw [hl]; exact h)])
  have Hno := Lib.hid (show ∀ k, k ≤ n → ¬ ClTo ts l k → false = res from fun k hk h => by
    rw [← hres]; symm; rw [Bool.eq_false_iff]
    intro e
    have h5 := clTo_end.2 e
    rw [hl] at h5
    exact h (clTo_take h5 k hk))
  clear hres hm hl
  go_enter Try.func48, Try.ntmps48
  go_wp2
  go_loopw [5] (fun t wr => ∃ k : Nat, t = .int .i64 k ∧ k ≤ n ∧ Hid (ClTo ts l k) ∧ Below w.heap.size w wr) (fun t _ => n - (intOf t).toNat)
  case atStart => exact ⟨0, rfl, by omega, Lib.hid (clTo_zero ts l), Below.refl _ _⟩
  case round =>
    obtain ⟨k, rfl, hk, Hk, hb⟩ := hrel
    by_cases hlt : k < n
    · have hlt' : (k : Int) < n := by omega
      have hk1 : k < l.length := by rw [Hl.out]; exact hlt
      have hk0 : (0 : Int) ≤ k := by omega
      obtain ⟨b, off, rfl, -, d0⟩ := (hd.ext hb).at1 hk1 rfl
      obtain ⟨x, hxe⟩ : ∃ x, l[k] = x := ⟨_, rfl⟩
      have Hxe := Lib.hid hxe
      rw [hxe] at d0
      clear hxe
      go_upto_region 4 with fail
      refine Dr.wp_region_plan 45 [] (.q [0, 1, 2, 3, 4, 5, 6] (.e1 7 (.q [8, 9, 10, 11, 12, 13, 14, 15, 16, 17, 18, 19] (.q [20, 21, 22, 23, 24, 25, 26, 27, 28, 29, 30, 31, 32] (.q [33, 34, 35, 36, 37, 38, 39, 40, 41, 42, 43, 44] .done))))) (by kernel_rfl) (by kernel_rfl) ?_
      replace hb := hb.drew
      have g0 := Dr.cell0 (w := wr.drew) d0
      have hdw := (hd.ext hb)
      have htw := (ht.ext hb)
      clear d0
      generalize World.drew wr = V at *
      with_reducible refine Dr.plan_q (l := [_, _, _, _, _, _, _]) (by with_unfolding_all exact rfl) (fun K hK => ?_)
      iterate 7 (go_big_quiet_step (fail))
      refine wpQuiet_nil (hK _ ?_); clear hK K
      have CI := Lib.hid (In_any x 0 ((m : Int) - 1) V)
      by_cases hin : 0 ≤ x ∧ x < m
      case neg =>
        have hbt : btw x 0 ((m : Int) - 1) = false := by simp [btw]; omega
        rw [hbt] at CI
        have Hr := Lib.hid (Hno.out (k + 1) (by omega) (fun h => hin (by
          have h5 := h.1 l[k] (by rw [List.mem_take_iff_getElem]; exact ⟨k, by omega, rfl⟩)
          rw [Hxe.out, Hm.out] at h5; exact h5)))
        clear hbt hin
        refine Dr.plan_e rfl (by rfl) (fun K hK => ?_)
        go_wp2_with fail
        refine (CI.out).mono ?_; rintro e V1 ⟨rfl, rfl⟩
        refine hK _ _ (.refl _ _) ?_; clear hK K
        with_reducible refine Dr.plan_q (l := [_, _, _, _, _, _, _, _, _, _, _, _]) (by with_unfolding_all exact rfl) (fun K hK => ?_)
        iterate 12 (go_big_quiet_step (fail))
        refine wpQuiet_nil (hK _ ?_); clear hK K
        with_reducible refine Dr.plan_q (l := [_, _, _, _, _, _, _, _, _, _, _, _, _]) (by with_unfolding_all exact rfl) (fun K hK => ?_)
        iterate 13 (go_big_quiet_step (fail))
        refine wpQuiet_nil (hK _ ?_); clear hK K
        with_reducible refine Dr.plan_q (l := [_, _, _, _, _, _, _, _, _, _, _, _]) (by with_unfolding_all exact rfl) (fun K hK => ?_)
        iterate 12 (go_big_quiet_step (fail))
        refine wpQuiet_nil (hK _ ?_); clear hK K
        refine Dr.plan_end rfl ?_
        go_wp2
        go_ret
        exact ⟨ret_congr (bool_congr Hr.out), hb⟩
      case pos =>
      have hbt : btw x 0 ((m : Int) - 1) = true := by simp [btw]; omega
      rw [hbt] at CI
      clear hbt
      obtain ⟨j, rfl⟩ : ∃ j : Nat, x = j := ⟨x.toNat, by omega⟩
      have hjm : (j : Int) < (m : Int) := hin.2
      have hj0 : (0 : Int) ≤ (j : Int) := hin.1
      have hjt : j < ts.length := by rw [Hm.out]; omega
      have Hin := Lib.hid hin
      clear hin
      by_cases hk00 : k = 0
      · subst hk00
        have H1 := Lib.hid ((clTo_one (ts := ts) hk1).2 (by rw [Hxe.out, Hm.out]; exact Hin.out))
        refine Dr.plan_e rfl (by rfl) (fun K hK => ?_)
        go_wp2_with fail
        refine (CI.out).mono ?_; rintro e V1 ⟨rfl, rfl⟩
        refine hK _ _ (.refl _ _) ?_; clear hK K
        with_reducible refine Dr.plan_q (l := [_, _, _, _, _, _, _, _, _, _, _, _]) (by with_unfolding_all exact rfl) (fun K hK => ?_)
        iterate 12 (go_big_quiet_step (fail))
        refine wpQuiet_nil (hK _ ?_); clear hK K
        with_reducible refine Dr.plan_q (l := [_, _, _, _, _, _, _, _, _, _, _, _, _]) (by with_unfolding_all exact rfl) (fun K hK => ?_)
        iterate 13 (go_big_quiet_step (fail))
        refine wpQuiet_nil (hK _ ?_); clear hK K
        with_reducible refine Dr.plan_q (l := [_, _, _, _, _, _, _, _, _, _, _, _]) (by with_unfolding_all exact rfl) (fun K hK => ?_)
        iterate 12 (go_big_quiet_step (fail))
        refine wpQuiet_nil (hK _ ?_); clear hK K
        refine Dr.plan_end rfl ?_
        go_wp2
        go_roundw
        case rel => exact ⟨0 + 1, by go_num, by omega, H1, hb⟩
        case measure => simp [intOf]; omega
      · obtain ⟨u, rfl⟩ : ∃ u, k = u + 1 := ⟨k - 1, by omega⟩
        have hu1 : u < l.length := by omega
        have Hs := Lib.hid (clTo_succ (ts := ts) (l := l) (k := u) hk1)
        obtain ⟨b5, off5, eA5, -, d1⟩ := hdw.at1 hu1 rfl
        cases eA5
        have hx := Hk.out.1 l[u] (by rw [List.mem_take_iff_getElem]; exact ⟨u, by omega, rfl⟩)
        obtain ⟨i, hi⟩ : ∃ i : Nat, l[u] = i := ⟨l[u].toNat, by omega⟩
        rw [hi, Hm.out] at hx
        have him : (i : Int) < (m : Int) := hx.2
        have hi0 : (0 : Int) ≤ (i : Int) := hx.1
        have hit : i < ts.length := by rw [Hm.out]; omega
        rw [hi] at d1 Hs
        rw [Hxe.out, thAt_eq hit, thAt_eq hjt] at Hs
        clear hi hx
        have g1 := Dr.cell0 d1
        clear d1
        by_cases hij : i < j
        case neg =>
          have hji : (j : Int) ≤ (i : Int) := by omega
          have Hr := Lib.hid (Hno.out (u + 1 + 1) (by omega) (fun h => hij (by have := (Hs.out.1 h).2.2.1; omega)))
          clear hij
          refine Dr.plan_e rfl (by rfl) (fun K hK => ?_)
          go_wp2_with fail
          refine (CI.out).mono ?_; rintro e V1 ⟨rfl, rfl⟩
          refine hK _ _ (.refl _ _) ?_; clear hK K
          with_reducible refine Dr.plan_q (l := [_, _, _, _, _, _, _, _, _, _, _, _]) (by with_unfolding_all exact rfl) (fun K hK => ?_)
          iterate 12 (go_big_quiet_step (fail))
          refine wpQuiet_nil (hK _ ?_); clear hK K
          with_reducible refine Dr.plan_q (l := [_, _, _, _, _, _, _, _, _, _, _, _, _]) (by with_unfolding_all exact rfl) (fun K hK => ?_)
          iterate 13 (go_big_quiet_step (fail))
          refine wpQuiet_nil (hK _ ?_); clear hK K
          with_reducible refine Dr.plan_q (l := [_, _, _, _, _, _, _, _, _, _, _, _]) (by with_unfolding_all exact rfl) (fun K hK => ?_)
          iterate 12 (go_big_quiet_step (fail))
          refine wpQuiet_nil (hK _ ?_); clear hK K
          refine Dr.plan_end rfl ?_
          go_wp2
          go_ret
          exact ⟨ret_congr (bool_congr Hr.out), hb⟩
        case pos =>
        have hji : ¬ (j : Int) ≤ (i : Int) := by omega
        have hji2 : ¬ j ≤ i := by omega
        have hji3 : decide ((j : Int) ≤ (i : Int)) = false := decide_eq_false hji
        obtain ⟨b6, off6, rfl, -, -, -, -, d6⟩ := htw.at4 hit rfl
        obtain ⟨b7, off7, eT, -, -, -, -, d7⟩ := htw.at4 hjt rfl
        cases eT
        generalize ts[i].need = ni at *
        generalize ts[j].need = nj at *
        have g2 := Dr.cell0 d6
        have g3 := Dr.cell0 d7
        clear d6 d7
        by_cases hnn : ni < nj
        · have hnn' : ¬ nj ≤ ni := by omega
          have H1 := Lib.hid (Hs.out.2 ⟨Hk.out, by rw [Hm.out]; exact Hin.out, by omega, hnn⟩)
          clear hnn hij
          refine Dr.plan_e rfl (by rfl) (fun K hK => ?_)
          go_wp2_with fail
          refine (CI.out).mono ?_; rintro e V1 ⟨rfl, rfl⟩
          refine hK _ _ (.refl _ _) ?_; clear hK K
          with_reducible refine Dr.plan_q (l := [_, _, _, _, _, _, _, _, _, _, _, _]) (by with_unfolding_all exact rfl) (fun K hK => ?_)
          iterate 12 (go_big_quiet_step (fail))
          refine wpQuiet_nil (hK _ ?_); clear hK K
          with_reducible refine Dr.plan_q (l := [_, _, _, _, _, _, _, _, _, _, _, _, _]) (by with_unfolding_all exact rfl) (fun K hK => ?_)
          iterate 13 (go_big_quiet_step (fail))
          refine wpQuiet_nil (hK _ ?_); clear hK K
          with_reducible refine Dr.plan_q (l := [_, _, _, _, _, _, _, _, _, _, _, _]) (by with_unfolding_all exact rfl) (fun K hK => ?_)
          iterate 12 (go_big_quiet_step (fail))
          refine wpQuiet_nil (hK _ ?_); clear hK K
          refine Dr.plan_end rfl ?_
          clear g0 g1 g2 g3
          go_wp2
          go_roundw
          case rel => exact ⟨u + 1 + 1, by go_num, by omega, H1, hb⟩
          case measure => simp [intOf]; omega
        · have hnn' : nj ≤ ni := by omega
          have Hr := Lib.hid (Hno.out (u + 1 + 1) (by omega) (fun h => hnn (Hs.out.1 h).2.2.2))
          clear hnn hij
          refine Dr.plan_e rfl (by rfl) (fun K hK => ?_)
          go_wp2_with fail
          refine (CI.out).mono ?_; rintro e V1 ⟨rfl, rfl⟩
          refine hK _ _ (.refl _ _) ?_; clear hK K
          with_reducible refine Dr.plan_q (l := [_, _, _, _, _, _, _, _, _, _, _, _]) (by with_unfolding_all exact rfl) (fun K hK => ?_)
          iterate 12 (go_big_quiet_step (fail))
          refine wpQuiet_nil (hK _ ?_); clear hK K
          with_reducible refine Dr.plan_q (l := [_, _, _, _, _, _, _, _, _, _, _, _, _]) (by with_unfolding_all exact rfl) (fun K hK => ?_)
          iterate 13 (go_big_quiet_step (fail))
          refine wpQuiet_nil (hK _ ?_); clear hK K
          with_reducible refine Dr.plan_q (l := [_, _, _, _, _, _, _, _, _, _, _, _]) (by with_unfolding_all exact rfl) (fun K hK => ?_)
          iterate 12 (go_big_quiet_step (fail))
          refine wpQuiet_nil (hK _ ?_); clear hK K
          refine Dr.plan_end rfl ?_
          clear g0 g1 g2 g3
          go_wp2
          go_ret
          exact ⟨ret_congr (bool_congr Hr.out), hb⟩
    · obtain rfl : k = n := by omega
      have Hr := Lib.hid (Hyes.out Hk.out)
      go_wp2
      go_ret
      exact ⟨ret_congr (bool_congr Hr.out), hb⟩
end Go.Proofs.Ytbpmfaibcibleaa

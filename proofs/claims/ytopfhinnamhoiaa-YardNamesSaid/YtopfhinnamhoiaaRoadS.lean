/- Walk: planned, spend, Spend, CheckRoad. -/
import Derived.Deep.DeepCutAuto
import Derived.Test.YtopfhinnamhoiaaRoadP
namespace Go.Proofs.Ytopfhinnamhoiaa
open Go.RowKit Go.Bs Go.Yd Go.Pl Go.Sort

theorem until_q {r : Rd} {l : List Int} {m n : Nat} (hl : l.length = m) (hn : r.days.length = n) (hr : ∀ i (h : i < l.length), 0 ≤ l[i]) (i : Nat) : (if i + 1 < m then l.getD (i + 1) 0 else (n : Int)) = ((qd r l (i + 1) : Nat) : Int) := by
  unfold qd
  rw [hl, hn]
  by_cases h : i + 1 < m
  · rw [if_pos h, if_pos h]
    have := hr (i + 1) (by omega)
    have e : l.getD (i + 1) 0 = l[i + 1]'(by omega) := by simp [hl, h]
    rw [e]; omega
  · rw [if_neg h, if_neg h]

set_option maxRecDepth 100000 in
set_option maxHeartbeats 2000000 in
theorem planned_any (r : Rd) (hok : r.ok) (A : Option Addr) (n cap : Nat) (l : List Int) (B : Option Addr) (m mc : Nat) (w : World) (res : Bool) (hres : res = true ↔ PlanOk r l) (hn : r.days.length = n) (hcap : n ≤ cap) (hl : l.length = m) (hm : m ≤ 40) (hd : RdAt w A r) (hv : Cells w B 1 encI l) :
    Calls Try.prog 88 #[.agg #[.slice A n cap, .int .i64 r.keep], .slice B m mc] w fun e w' => e = .returned (.bool res) ∧ Below w.heap.size w w' := by
  have hb0 := ext_alloc w (.cells #[.slice A n cap, .int .i64 r.keep] 92)
  have hB := Blk.new w 92 [.slice A n cap, .int .i64 r.keep]
  have hlen := hok.1
  have hbad : ¬ PlanOk r l → res = false := fun h => by
    cases hr : res
    · rfl
    · exact absurd (hres.1 hr) h
  have Bad := Lib.hid hbad
  have Hres := Lib.hid hres
  have Hn := Lib.hid hn
  have Hl := Lib.hid hl
  clear hbad hres
  go_enter Try.func88, Try.ntmps88
  go_upto_region 1 with fail
  change Blk (w.alloc (.cells #[.slice A n cap, .int .i64 r.keep] 92)) w.heap.size 92 [.slice A n cap, .int .i64 r.keep] at hB
  generalize w.alloc (.cells #[.slice A n cap, .int .i64 r.keep] 92) = W0 at *
  go_wp2
  go_loopw [11] (fun x wr => ∃ k : Nat, x = .int .i64 k ∧ k ≤ m ∧ Hid (∀ i (h : i < l.length), i < k → (0 ≤ l[i] ∧ l[i] < r.days.length) ∧ (r.day (l[i]).toNat).opn = true ∧ ∀ j (hj : j + 1 = i), l[j]'(by omega) < l[i]) ∧ Below w.heap.size w wr ∧ Blk wr w.heap.size 92 [.slice A n cap, .int .i64 r.keep]) (fun x _ => m - (intOf x).toNat)
  case atStart => exact ⟨0, rfl, by omega, Lib.hid (fun i _ h => by omega), hb0, hB⟩
  case round =>
    clear hb0 hB
    obtain ⟨k, rfl, hk, Hk, hb, hB⟩ := hrel
    have x0 : wr.cell? ⟨w.heap.size, 0, none⟩ = _ := hB.cell rfl
    by_cases hlt : k < m
    · have hlt' : (k : Int) < (m : Int) := by omega
      have hk0 : (0 : Int) ≤ (k : Int) := by omega
      have hkl : k < l.length := by rw [Hl.out]; exact hlt
      obtain ⟨bv, ov, rfl, -, e0⟩ := (hv.ext hb).at1 hkl rfl
      have bad1 : ¬ (0 ≤ l[k] ∧ l[k] ≤ (n : Int) - 1) → res = false := fun h => Bad.out (fun hp => h (by have := hp.rng k hkl; rw [Hn.out] at this; omega))
      have bad2 : ¬ (r.day (l[k]).toNat).opn = true → res = false := fun h => Bad.out (fun hp => h (hp.opn k hkl))
      have bad3 : ∀ j (hj : j + 1 = k), l[k] ≤ l[j]'(by omega) → res = false := fun j hj h => Bad.out (fun hp => by
        subst hj
        have := hp.inc j hkl
        omega)
      have good : (0 ≤ l[k] ∧ l[k] ≤ (n : Int) - 1) → (r.day (l[k]).toNat).opn = true → (∀ j (hj : j + 1 = k), l[j]'(by omega) < l[k]) → ∀ i (h : i < l.length), i < k + 1 → (0 ≤ l[i] ∧ l[i] < r.days.length) ∧ (r.day (l[i]).toNat).opn = true ∧ ∀ j (hj : j + 1 = i), l[j]'(by omega) < l[i] := fun g1 g2 g3 i hi hik => by
        by_cases e : i = k
        · subst e; exact ⟨by rw [Hn.out]; omega, g2, g3⟩
        · exact Hk.out i hi (by omega)
      have Bad1 := Lib.hid bad1
      have Bad2 := Lib.hid bad2
      have Bad3 := Lib.hid bad3
      have Good := Lib.hid good
      clear bad1 bad2 bad3 good
      by_cases hx : 0 ≤ l[k] ∧ l[k] ≤ (n : Int) - 1
      · obtain ⟨p, hp⟩ := Int.eq_ofNat_of_zero_le hx.1
        have hpn : p < n := by omega
        have C1 := Lib.hid (within_t (show 0 ≤ (p : Int) ∧ (p : Int) ≤ (n : Int) - 1 by omega))
        have Good2 := Lib.hid (Good.out hx)
        have hpt : (l[k]).toNat = p := by rw [hp]; simp
        rw [hp] at e0
        rw [hpt] at Bad2 Good2
        have hp1 : (p : Int) < (n : Int) := by omega
        have hp0 : (0 : Int) ≤ (p : Int) := by omega
        obtain ⟨ba, oa, rfl, -, -, -, -, c3⟩ := (hd.ext hb).day (k := p) (by rw [Hn.out]; exact hpn)
        have Hp := Lib.hid hp
        clear hx hp hpt Good Bad1
        by_cases hk1 : k = 0
        · have hk1' : ¬ (0 : Int) < (k : Int) := by omega
          have Good3 := Lib.hid (fun h => Good2.out h (fun j hj => by omega))
          clear hk1
          cases ho : (r.day p).opn
          · have Hr := Lib.hid (Bad2.out (by rw [ho]; simp))
            rw [ho] at c3
            clear ho
            go_wp2_with fail
            refine (C1.out _).mono ?_; rintro e w1 ⟨rfl, rfl⟩
            go_wp2
            go_ret
            exact ⟨ret_congr (bool_congr Hr.out.symm), hb⟩
          · have Hg := Lib.hid (Good3.out ho)
            rw [ho] at c3
            clear ho
            go_wp2_with fail
            refine (C1.out _).mono ?_; rintro e w1 ⟨rfl, rfl⟩
            go_wp2
            go_roundw
            case rel => exact ⟨k + 1, by go_num, by omega, Hg, hb, hB⟩
            case measure => simp [intOf]; omega
        · obtain ⟨j, rfl⟩ : ∃ j, k = j + 1 := ⟨k - 1, by omega⟩
          have hjl : j < l.length := by omega
          have hj0 : (0 : Int) ≤ (j : Int) := by omega
          have hjm : (j : Int) < (m : Int) := by omega
          have hjp : (0 : Int) < ((j + 1 : Nat) : Int) := by omega
          obtain ⟨bv', ov', eA, -, e1⟩ := (hv.ext hb).at1 hjl rfl
          cases eA
          have Bd3 := Lib.hid (Bad3.out j rfl)
          have Gd3 := Lib.hid (fun h (h' : l[j] < l[j + 1]) => Good2.out h (fun j' hj' => by
            have : j' = j := by omega
            subst this; exact h'))
          have ejj : ((j + 1 : Nat) : Int) - 1 = (j : Int) := by omega
          rw [Hp.out] at Bd3 Gd3
          generalize l[j] = pv at *
          clear Good2 Bad3 hk1
          by_cases hle : (p : Int) ≤ pv
          · have Hr := Lib.hid (Bd3.out hle)
            go_wp2_with fail
            refine (C1.out _).mono ?_; rintro e w1 ⟨rfl, rfl⟩
            go_wp2
            go_ret
            exact ⟨ret_congr (bool_congr Hr.out.symm), hb⟩
          · cases ho : (r.day p).opn
            · have Hr := Lib.hid (Bad2.out (by rw [ho]; simp))
              rw [ho] at c3
              clear ho
              go_wp2_with fail
              refine (C1.out _).mono ?_; rintro e w1 ⟨rfl, rfl⟩
              go_wp2
              go_ret
              exact ⟨ret_congr (bool_congr Hr.out.symm), hb⟩
            · have Hg := Lib.hid (Gd3.out ho (by omega))
              rw [ho] at c3
              clear ho
              go_wp2_with fail
              refine (C1.out _).mono ?_; rintro e w1 ⟨rfl, rfl⟩
              go_wp2
              go_roundw
              case rel => exact ⟨j + 1 + 1, by go_num, by omega, Hg, hb, hB⟩
              case measure => simp [intOf]; omega
      · have C1 := Lib.hid (within_f hx)
        have Hr := Lib.hid (Bad1.out hx)
        clear hx
        go_wp2_with fail
        refine (C1.out _).mono ?_; rintro e w1 ⟨rfl, rfl⟩
        go_wp2
        go_ret
        exact ⟨ret_congr (bool_congr Hr.out.symm), hb⟩
    · obtain rfl : k = m := by omega
      have hrng : ∀ i (h : i < l.length), 0 ≤ l[i] := fun i h => (Hk.out i h (by rw [Hl.out] at h; exact h)).1.1
      have Hrng := Lib.hid hrng
      have hgood : (∀ i, i < l.length → r.feeds (qd r l i) (qd r l (i + 1)) = true) → r.need 0 (qd r l 0) = 0 → PlanOk r l := fun g1 g2 =>
        ⟨fun i h => (Hk.out i h (by rw [Hl.out] at h; exact h)).1, fun i h => (Hk.out i h (by rw [Hl.out] at h; exact h)).2.1, fun i h => (Hk.out (i + 1) h (by rw [Hl.out] at h; exact h)).2.2 i rfl, g1, g2⟩
      have Good := Lib.hid hgood
      have hqb : ∀ i, i < k → qd r l i < n ∧ qd r l i < qd r l (i + 1) ∧ qd r l (i + 1) ≤ n := fun i hi => by
        have h1 := (Hk.out i (by rw [Hl.out]; exact hi) hi)
        have e1 : qd r l i = (l[i]'(by rw [Hl.out]; exact hi)).toNat := qd_at _
        rw [Hn.out] at h1
        by_cases h2 : i + 1 < k
        · have h3 := Hk.out (i + 1) (by rw [Hl.out]; exact h2) h2
          have e2 : qd r l (i + 1) = (l[i + 1]'(by rw [Hl.out]; exact h2)).toNat := qd_at _
          have h4 := h3.2.2 i rfl
          rw [Hn.out] at h3
          rw [e1, e2]; omega
        · have e2 : qd r l (i + 1) = r.days.length := qd_end (by rw [Hl.out]; omega)
          rw [e1, e2, Hn.out]; omega
      have Hqb := Lib.hid hqb
      clear hrng hgood hqb
      by_cases h0 : k = 0
      · subst h0
        have hq0 : qd r l 0 = n := by rw [qd_end (by rw [Hl.out]; omega), Hn.out]
        have hrs : res = decide (r.need 0 n = 0) := by
          by_cases hz : r.need 0 n = 0
          · rw [decide_eq_true hz]; exact Hres.out.2 (Good.out (fun i h => by rw [Hl.out] at h; omega) (by rw [hq0]; exact hz))
          · rw [decide_eq_false hz]; exact Bad.out (fun hp => hz (by have := hp.st; rw [hq0] at this; exact this))
        have Hrs := Lib.hid hrs
        have x1 : wr.cell? ⟨w.heap.size, 1, none⟩ = _ := hB.cell rfl
        clear hq0 hrs
        go_wp2_with fail
        refine (need_nat r A n cap r.keep 0 n wr hok Hn.out hcap (by omega) (Nat.le_refl _) (hd.ext hb)).mono ?_
        rintro e w1 ⟨rfl, hb1⟩
        generalize r.need 0 n = nd at *
        go_wp2
        go_ret
        refine ⟨ret_congr (bool_congr ?_), ext_trans hb hb1⟩
        rw [Hrs.out]
        by_cases hz : nd = 0
        · subst hz; rfl
        · rw [decide_eq_false hz]; simpa using hz
      · have h0' : ((k : Int) == 0) = false := by simp; omega
        go_wp2
        go_loopw [57] (fun x wr => ∃ i : Nat, x = .int .i64 i ∧ i ≤ k ∧ Hid (∀ i', i' < i → r.feeds (qd r l i') (qd r l (i' + 1)) = true) ∧ Below w.heap.size w wr ∧ Blk wr w.heap.size 92 [.slice A n cap, .int .i64 r.keep]) (fun x _ => k - (intOf x).toNat)
        case atStart => exact ⟨0, rfl, by omega, Lib.hid (fun i' h => by omega), hb, hB⟩
        case round =>
          clear hb hB x0
          obtain ⟨i, rfl, hi, Hi, hb, hB⟩ := hrel
          by_cases hik : i < k
          · have hik' : (i : Int) < (k : Int) := by omega
            have hi0 : (0 : Int) ≤ (i : Int) := by omega
            have hil : i < l.length := by rw [Hl.out]; exact hik
            have hqb := Hqb.out i hik
            have hU := until_q Hl.out Hn.out Hrng.out i (r := r)
            have hq : l[i] = ((qd r l i : Nat) : Int) := by rw [qd_at hil]; have := Hrng.out i hil; omega
            obtain ⟨bv, ov, rfl, -, e0⟩ := (hv.ext hb).at1 hil rfl
            rw [hq] at e0
            have hUc := fun W (hc : Cells W (some ⟨bv, ov, none⟩) 1 encI l) => until_any l (some ⟨bv, ov, none⟩) k mc A n cap r.keep i W Hl.out hm hik hc
            rw [hU] at hUc
            have HUc := Lib.hid hUc
            have bad : r.feeds (qd r l i) (qd r l (i + 1)) = false → res = false := fun h => Bad.out (fun hp => by
              have := hp.fd i hil
              rw [h] at this; cases this)
            have good : r.feeds (qd r l i) (qd r l (i + 1)) = true → ∀ i', i' < i + 1 → r.feeds (qd r l i') (qd r l (i' + 1)) = true := fun h i' hi' => by
              by_cases e : i' = i
              · subst e; exact h
              · exact Hi.out i' (by omega)
            have Bd := Lib.hid bad
            have Gd' := Lib.hid good
            clear hU hq hUc bad good
            generalize qd r l i = qa at *
            generalize qd r l (i + 1) = qb at *
            go_upto_region 12 with fail
            clear e0
            refine Dr.wp_region_plan 8 [] (.q [0, 1, 2, 3, 4] (.e1 5 (.e1 6 (.q [7] .done)))) (by kernel_rfl) (by kernel_rfl) ?_
            have hb1 := hb.drew
            have hB1 := hB.ext (ext_drew wr)
            clear hb hB
            generalize World.drew _ = W at *
            have q0 := Dr.cell0 (hB1.cell (i := 0) rfl)
            have q1 := Dr.cell0 (hB1.cell (i := 1) rfl)
            refine Dr.plan_q (l := [_, _, _, _, _]) rfl (fun K hK => ?_)
            iterate 5 (go_big_quiet_step (fail))
            refine wpQuiet_nil (hK _ ?_); clear hK K
            refine Dr.plan_e rfl (by rfl) (fun K hK => ?_)
            go_wp2_with fail
            refine (HUc.out W (hv.ext hb1)).mono ?_; rintro e w1 ⟨rfl, hb2⟩
            refine hK _ _ (.of hb2) ?_; clear hK K
            refine Dr.plan_e rfl (by rfl) (fun K hK => ?_)
            go_wp2_with fail
            refine (feeds_any r A n cap qa qb w1 hok Hn.out hcap hqb.2.2 (by omega) (hd.ext (ext_trans hb1 hb2))).mono ?_; rintro e w2 ⟨rfl, hb3⟩
            refine hK _ _ (.of hb3) ?_; clear hK K
            have hb4 := ext_trans (ext_trans hb1 hb2) hb3
            have hB4 := (hB1.ext hb2).ext hb3
            clear hb1 hb2 hb3 hB1 q0 q1
            cases hf : r.feeds qa qb
            · have Hr := Lib.hid (Bd.out hf)
              clear hf
              refine Dr.plan_q (l := [_]) rfl (fun K hK => ?_)
              iterate 1 (go_big_quiet_step (fail))
              refine wpQuiet_nil (hK _ ?_); clear hK K
              refine Dr.plan_end rfl ?_
              go_wp2
              go_ret
              exact ⟨ret_congr (bool_congr Hr.out.symm), hb4⟩
            · have Hg := Lib.hid (Gd'.out hf)
              clear hf
              refine Dr.plan_q (l := [_]) rfl (fun K hK => ?_)
              iterate 1 (go_big_quiet_step (fail))
              refine wpQuiet_nil (hK _ ?_); clear hK K
              refine Dr.plan_end rfl ?_
              go_wp2
              go_roundw
              case rel => exact ⟨i + 1, by go_num, by omega, Hg, hb4, hB4⟩
              case measure => simp [intOf]; omega
          · obtain rfl : i = k := by omega
            have hql : (0 : Nat) < l.length := by rw [Hl.out]; omega
            have hq0 : l[0] = ((qd r l 0 : Nat) : Int) := by rw [qd_at hql]; have := Hrng.out 0 hql; omega
            have hqn : qd r l 0 ≤ n := Nat.le_of_lt (Hqb.out 0 (by omega)).1
            have hrs : res = decide (r.need 0 (qd r l 0) = 0) := by
              by_cases hz : r.need 0 (qd r l 0) = 0
              · rw [decide_eq_true hz]; exact Hres.out.2 (Good.out (fun i' h => Hi.out i' (by rw [Hl.out] at h; exact h)) hz)
              · rw [decide_eq_false hz]; exact Bad.out (fun hp => hz hp.st)
            have Hrs := Lib.hid hrs
            have hi1 : (0 : Int) < (i : Int) := by omega
            clear hrs
            go_upto_region 15 with fail
            refine Dr.wp_region_plan 7 [] (.q [0, 1, 2, 3] (.e1 4 (.q [5, 6] .done))) (by kernel_rfl) (by kernel_rfl) ?_
            have hb1 := hb.drew
            have hB1 := hB.ext (ext_drew wr)
            clear hb hB
            generalize World.drew _ = W at *
            obtain ⟨bv, ov, rfl, -, e0⟩ := (hv.ext hb1).at1 hql rfl
            rw [hq0] at e0
            simp only [Nat.add_zero] at e0
            generalize qd r l 0 = qa at *
            have q0 := Dr.cell0 (hB1.cell (i := 0) rfl)
            have q1 := Dr.cell0 (hB1.cell (i := 1) rfl)
            have q2 := Dr.cell0 e0
            clear hq0 e0
            refine Dr.plan_q (l := [_, _, _, _]) rfl (fun K hK => ?_)
            iterate 4 (go_big_quiet_step (fail))
            refine wpQuiet_nil (hK _ ?_); clear hK K
            refine Dr.plan_e rfl (by rfl) (fun K hK => ?_)
            go_wp2_with fail
            refine (need_nat r A n cap r.keep 0 qa W hok Hn.out hcap (by omega) hqn (hd.ext hb1)).mono ?_; rintro e w1 ⟨rfl, hb2⟩
            refine hK _ _ (.of hb2) ?_; clear hK K
            generalize r.need 0 qa = nd at *
            clear q0 q1 q2
            refine Dr.plan_q (l := [_, _]) rfl (fun K hK => ?_)
            iterate 2 (go_big_quiet_step (fail))
            refine wpQuiet_nil (hK _ ?_); clear hK K
            refine Dr.plan_end rfl ?_
            go_wp2
            go_ret
            refine ⟨ret_congr (bool_congr ?_), ext_trans hb1 hb2⟩
            rw [Hrs.out]
            by_cases hz : nd = 0
            · subst hz; rfl
            · rw [decide_eq_false hz]; simpa using hz
end Go.Proofs.Ytopfhinnamhoiaa

/- Walk: the reference's Plan. -/
import Derived.Deep.DeepCutAuto
import Derived.Test.YtopfhinnamhoiaaRoadQ
namespace Go.Proofs.Ytopfhinnamhoiaa
open Go.RowKit Go.Bs Go.Yd Go.Pl Go.Sort

set_option maxRecDepth 100000 in
set_option maxHeartbeats 4000000 in
theorem RPlan_any (r : Rd) (hok : r.ok) (A : Option Addr) (n cap : Nat) (l : List Int) (V : Option Addr) (m cm : Nat) (w : World) (res : Bool) (hres : res = true ↔ PlanOk r l) (hn : r.days.length = n) (hm : l.length = m) (h40 : m ≤ 40) (hd : RdAt w A r) (hv : Cells w V 1 encI l) :
    Calls Try.prog 56 #[.agg #[.slice A n cap, .int .i64 r.keep], .slice V m cm] w fun e w' => e = .returned (.bool res) ∧ Below w.heap.size w w' := by
  have hb0 := ext_alloc w (.cells #[.slice A n cap, .int .i64 r.keep] 87)
  have hB := Blk.new w 87 [.slice A n cap, .int .i64 r.keep]
  have hlen := hok.1
  rw [hn] at hlen
  have hbad : ¬ PlanOk r l → res = false := fun h => by
    cases hr : res
    · rfl
    · exact absurd (hres.1 hr) h
  have Bad := Lib.hid hbad
  have Hres := Lib.hid hres
  have Hn := Lib.hid hn
  have Hl := Lib.hid hm
  clear hbad hres
  go_enter Try.func56, Try.ntmps56
  go_upto_region 1 with fail
  change Blk (w.alloc (.cells #[.slice A n cap, .int .i64 r.keep] 87)) w.heap.size 87 [.slice A n cap, .int .i64 r.keep] at hB
  generalize w.alloc (.cells #[.slice A n cap, .int .i64 r.keep] 87) = W0 at *
  go_wp2
  go_loopw [5] (fun x wr => ∃ k : Nat, x = .int .i64 k ∧ k ≤ m ∧ Hid (∀ i (h : i < l.length), i < k → (0 ≤ l[i] ∧ l[i] < r.days.length) ∧ (r.day (l[i]).toNat).opn = true ∧ ∀ j (hj : j + 1 = i), l[j]'(by omega) < l[i]) ∧ Below w.heap.size w wr ∧ Blk wr w.heap.size 87 [.slice A n cap, .int .i64 r.keep]) (fun x _ => m - (intOf x).toNat)
  case atStart => exact ⟨0, rfl, by omega, Lib.hid (fun i _ h => by omega), hb0, hB⟩
  case round =>
    clear hb0 hB
    obtain ⟨k, rfl, hk, Hk, hb, hB⟩ := hrel
    by_cases hlt : k < m
    · have hlt' : (k : Int) < (m : Int) := by omega
      have hk0 : (0 : Int) ≤ (k : Int) := by omega
      have hkl : k < l.length := by rw [Hl.out]; exact hlt
      obtain ⟨bv, ov, rfl, -, e0⟩ := (hv.ext hb).at1 hkl rfl
      have bad1 : ¬ (0 ≤ l[k] ∧ l[k] ≤ (n : Int) - 1) → res = false := fun h => Bad.out (fun hp => h (by have := hp.rng k hkl; rw [Hn.out] at this; omega))
      have bad2 : ¬ (r.day (l[k]).toNat).opn = true → res = false := fun h => Bad.out (fun hp => h (hp.opn k hkl))
      have bad3 : ∀ j (hj : j + 1 = k), l[k] ≤ l[j]'(by omega) → res = false := fun j hj h => Bad.out (fun hp => by
        subst hj
        have := hp.inc j hkl
        omega)
      have good : (0 ≤ l[k] ∧ l[k] ≤ (n : Int) - 1) → (r.day (l[k]).toNat).opn = true → (∀ j (hj : j + 1 = k), l[j]'(by omega) < l[k]) → ∀ i (h : i < l.length), i < k + 1 → (0 ≤ l[i] ∧ l[i] < r.days.length) ∧ (r.day (l[i]).toNat).opn = true ∧ ∀ j (hj : j + 1 = i), l[j]'(by omega) < l[i] := fun g1 g2 g3 i hi hik => by
        by_cases e : i = k
        · subst e; exact ⟨by rw [Hn.out]; omega, g2, g3⟩
        · exact Hk.out i hi (by omega)
      have Bad1 := Lib.hid bad1
      have Bad2 := Lib.hid bad2
      have Bad3 := Lib.hid bad3
      have Good := Lib.hid good
      clear bad1 bad2 bad3 good
      go_upto_region 4 with fail
      refine Dr.wp_region_plan 38 [] (.q [0, 1, 2, 3, 4, 5, 6, 7] (.e1 8 (.q [9, 10, 11, 12, 13, 14, 15, 16, 17, 18, 19, 20, 21, 22, 23, 24, 25, 26, 27, 28, 29, 30, 31, 32, 33, 34, 35, 36, 37] .done))) (by kernel_rfl) (by kernel_rfl) ?_
      have hb1 := hb.drew
      have hB1 := hB.ext (ext_drew wr)
      have hc1 := cell_ext e0 (ext_drew wr)
      clear hb hB e0
      generalize World.drew _ = W at *
      have q0 := Dr.cell0 (hB1.cell (i := 0) rfl)
      by_cases hx : 0 ≤ l[k] ∧ l[k] ≤ (n : Int) - 1
      · obtain ⟨p, hp⟩ := Int.eq_ofNat_of_zero_le hx.1
        have hpn : p < n := by omega
        have C1 := Lib.hid (In_t (show 0 ≤ (p : Int) ∧ (p : Int) ≤ (n : Int) - 1 by omega))
        have Good2 := Lib.hid (Good.out hx)
        have hpt : (l[k]).toNat = p := by rw [hp]; simp
        rw [hp] at hc1
        rw [hpt] at Bad2 Good2
        have q1 := Dr.cell0 hc1
        have hp1 : (p : Int) < (n : Int) := by omega
        have hp0 : (0 : Int) ≤ (p : Int) := by omega
        obtain ⟨ba, oa, rfl, -, -, -, -, c3⟩ := (hd.ext hb1).day (k := p) (by rw [Hn.out]; exact hpn)
        have Hp := Lib.hid hp
        clear hx hp hpt Good Bad1
        refine Dr.plan_q (l := [_, _, _, _, _, _, _, _]) rfl (fun K hK => ?_)
        iterate 8 (go_big_quiet_step (fail))
        refine wpQuiet_nil (hK _ ?_); clear hK K
        refine Dr.plan_e rfl (by rfl) (fun K hK => ?_)
        go_wp2_with fail
        refine (C1.out _).mono ?_; rintro e w1 ⟨rfl, rfl⟩
        refine hK _ _ (.of (Below.refl _ _)) ?_; clear hK K
        cases ho : (r.day p).opn
        · have Hr := Lib.hid (Bad2.out (by rw [ho]; simp))
          rw [ho] at c3
          have q2 := Dr.cell0 c3
          clear ho c3
          refine Dr.plan_q (l := [_, _, _, _, _, _, _, _, _, _, _, _, _, _, _, _, _, _, _, _, _, _, _, _, _, _, _, _, _]) rfl (fun K hK => ?_)
          iterate 29 (go_big_quiet_step (fail))
          refine wpQuiet_nil (hK _ ?_); clear hK K
          refine Dr.plan_end rfl ?_
          go_wp2
          go_ret
          exact ⟨ret_congr (bool_congr Hr.out.symm), hb1⟩
        · have Good3 := Lib.hid (Good2.out ho)
          rw [ho] at c3
          have q2 := Dr.cell0 c3
          clear ho c3
          by_cases hk1 : k = 0
          · have hk1' : ¬ (0 : Int) < (k : Int) := by omega
            have hk2' : ¬ 0 < k := by omega
            have Hg := Lib.hid (Good3.out (fun j hj => by omega))
            clear hk1
            refine Dr.plan_q (l := [_, _, _, _, _, _, _, _, _, _, _, _, _, _, _, _, _, _, _, _, _, _, _, _, _, _, _, _, _]) rfl (fun K hK => ?_)
            iterate 29 (go_big_quiet_step (fail))
            refine wpQuiet_nil (hK _ ?_); clear hK K
            refine Dr.plan_end rfl ?_
            go_wp2
            go_roundw
            case rel => exact ⟨k + 1, by go_num, by omega, Hg, hb1, hB1⟩
            case measure => simp [intOf]; omega
          · obtain ⟨j, hkj⟩ : ∃ j, k = j + 1 := ⟨k - 1, by omega⟩
            have hjl : j < l.length := by omega
            have hj0 : (0 : Int) ≤ (j : Int) := by omega
            have hjm : (j : Int) < (m : Int) := by omega
            have hjp : (0 : Int) < (k : Int) := by omega
            have hjp' : 0 < k := by omega
            obtain ⟨bv', ov', eA, -, e1⟩ := (hv.ext hb1).at1 hjl rfl
            cases eA
            have Bd3 := Lib.hid (Bad3.out j hkj.symm)
            have Gd3 := Lib.hid (fun (h' : l[j] < l[k]) => Good3.out (fun j' hj' => by
              have : j' = j := by omega
              subst this; exact h'))
            have ejj : (k : Int) - 1 = (j : Int) := by omega
            rw [Hp.out] at Bd3 Gd3
            generalize l[j] = pv at *
            have q3 := Dr.cell0 e1
            clear Good3 Good2 Bad3 hk1 hkj e1
            by_cases hle : (p : Int) ≤ pv
            · have Hr := Lib.hid (Bd3.out hle)
              refine Dr.plan_q (l := [_, _, _, _, _, _, _, _, _, _, _, _, _, _, _, _, _, _, _, _, _, _, _, _, _, _, _, _, _]) rfl (fun K hK => ?_)
              iterate 29 (go_big_quiet_step (fail))
              refine wpQuiet_nil (hK _ ?_); clear hK K
              refine Dr.plan_end rfl ?_
              go_wp2
              go_ret
              exact ⟨ret_congr (bool_congr Hr.out.symm), hb1⟩
            · have Hg := Lib.hid (Gd3.out (by omega))
              refine Dr.plan_q (l := [_, _, _, _, _, _, _, _, _, _, _, _, _, _, _, _, _, _, _, _, _, _, _, _, _, _, _, _, _]) rfl (fun K hK => ?_)
              iterate 29 (go_big_quiet_step (fail))
              refine wpQuiet_nil (hK _ ?_); clear hK K
              refine Dr.plan_end rfl ?_
              go_wp2
              go_roundw
              case rel => exact ⟨k + 1, by go_num, by omega, Hg, hb1, hB1⟩
              case measure => simp [intOf]; omega
      · have C1 := Lib.hid (In_f hx)
        have Hr := Lib.hid (Bad1.out hx)
        have q1 := Dr.cell0 hc1
        clear hx
        refine Dr.plan_q (l := [_, _, _, _, _, _, _, _]) rfl (fun K hK => ?_)
        iterate 8 (go_big_quiet_step (fail))
        refine wpQuiet_nil (hK _ ?_); clear hK K
        refine Dr.plan_e rfl (by rfl) (fun K hK => ?_)
        go_wp2_with fail
        refine (C1.out _).mono ?_; rintro e w1 ⟨rfl, rfl⟩
        refine hK _ _ (.of (Below.refl _ _)) ?_; clear hK K
        refine Dr.plan_q (l := [_, _, _, _, _, _, _, _, _, _, _, _, _, _, _, _, _, _, _, _, _, _, _, _, _, _, _, _, _]) rfl (fun K hK => ?_)
        iterate 29 (go_big_quiet_step (fail))
        refine wpQuiet_nil (hK _ ?_); clear hK K
        refine Dr.plan_end rfl ?_
        go_wp2
        go_ret
        exact ⟨ret_congr (bool_congr Hr.out.symm), hb1⟩
    · obtain rfl : k = m := by omega
      have hpre : PlanPre r l := ⟨fun i h => (Hk.out i h (by rw [Hl.out] at h; exact h)).1, fun i h => (Hk.out i h (by rw [Hl.out] at h; exact h)).2.1, fun i h => (Hk.out (i + 1) h (by rw [Hl.out] at h; exact h)).2.2 i rfl⟩
      have Pre := Lib.hid hpre
      have Good := Lib.hid (fun h => Hres.out.2 (hpre.ok hok h))
      clear hpre Hk
      generalize hb2 : wr = W at *
      clear hb2
      go_upto_region 7 with fail
      go_wp2
      go_loopw [6, 7, 8] (fun la k' x wr => ∃ kk t : Nat, x = .int .i64 t ∧ t ≤ n ∧ k' = .int .i64 kk ∧ kk ≤ k ∧ la = .int .i64 (lastN r l kk) ∧ Hid ((0 < kk → qd r l (kk - 1) < t) ∧ t ≤ qd r l kk) ∧ Hid (∀ t', t' < t → 0 < (r.day t').need → Eaten r l t') ∧ Below w.heap.size w wr ∧ Blk wr w.heap.size 87 [.slice A n cap, .int .i64 r.keep]) (fun _ _ x _ => n - (intOf x).toNat)
      case atStart => exact ⟨0, 0, rfl, by omega, rfl, by omega, rfl, Lib.hid ⟨fun h => by omega, by omega⟩, Lib.hid (fun t' h => by omega), hb, hB⟩
      case round =>
        clear hb hB
        obtain ⟨kk, t, rfl, ht, rfl, hkk, rfl, Hq, Hall, hb, hBr⟩ := hrel
        have x0 : wr.cell? ⟨w.heap.size, 0, none⟩ = _ := hBr.cell rfl
        have x1 : wr.cell? ⟨w.heap.size, 1, none⟩ = _ := hBr.cell rfl
        by_cases hlt : t < n
        · have hlt' : (t : Int) < (n : Int) := by omega
          have ht0 : (0 : Int) ≤ (t : Int) := by omega
          have hk0 : (0 : Int) ≤ (kk : Int) := by omega
          obtain ⟨bd, od, rfl, -, c0, -, -, -⟩ := (hd.ext hb).day (k := t) (by rw [Hn.out]; exact hlt)
          go_upto_region 10 with fail
          go_cut [71] (fun z W => z = .bool (decide (kk < k ∧ qd r l kk = t)) ∧ W = wr)
          case first =>
            by_cases hkm : kk < k
            · have hkm' : (kk : Int) < (k : Int) := by omega
              have hkl : kk < l.length := by rw [Hl.out]; exact hkm
              have hq : l[kk] = ((qd r l kk : Nat) : Int) := by rw [qd_at hkl]; have := Pre.out.rng kk hkl; omega
              obtain ⟨bv, ov, rfl, -, e0⟩ := (hv.ext hb).at1 hkl rfl
              rw [hq] at e0
              generalize qd r l kk = qk at *
              clear hq c0
              go_wp2
              go_meet
              case rel => exact ⟨bool_congr (by rw [beq_nat]; simp [hkm]), rfl⟩
            · have hkm' : ¬ (kk : Int) < (k : Int) := by omega
              clear c0
              go_wp2
              go_meet
              case rel => exact ⟨bool_congr (by simp [hkm]), rfl⟩
          case rest =>
            obtain ⟨rfl, rfl⟩ := hcut
            have hday := Rd.day_ok hok (i := t) (by rw [Hn.out]; exact hlt)
            have Hday := Lib.hid hday
            clear hday
            go_upto_if 71 with fail
            go_cut [6, 7] (fun la k' W => ∃ kk' : Nat, k' = .int .i64 kk' ∧ kk' ≤ k ∧ la = .int .i64 (lastN r l kk') ∧ Hid ((0 < kk' → qd r l (kk' - 1) < t + 1) ∧ t + 1 ≤ qd r l kk') ∧ W = wc)
            case first =>
              by_cases hc : kk < k ∧ qd r l kk = t
              · have hq1 : t + 1 ≤ qd r l (kk + 1) := by
                  have := Pre.out.q_inc (i := kk) (by rw [Hl.out]; exact hc.1)
                  omega
                have hla : lastN r l (kk + 1) = t := by unfold lastN; rw [if_neg (Nat.succ_ne_zero kk), Nat.add_sub_cancel, hc.2]
                have hq2 : qd r l kk < t + 1 := by omega
                rw [decide_eq_true hc]
                have Hla := Lib.hid hla
                have Hq1 := Lib.hid hq1
                have Hq2 := Lib.hid hq2
                have hk1 : kk + 1 ≤ k := hc.1
                clear hq1 hla c0 hc hq2
                go_wp2
                go_meet
                case rel => exact ⟨kk + 1, by go_num, hk1, int_congr Hla.out.symm, Lib.hid ⟨fun _ => by rw [Nat.add_sub_cancel]; exact Hq2.out, Hq1.out⟩, rfl⟩
              · rw [decide_eq_false hc]
                have hq1 : t + 1 ≤ qd r l kk := by
                  have h1 := Hq.out.2
                  by_cases h2 : kk < k
                  · have : qd r l kk ≠ t := fun h => hc ⟨h2, h⟩
                    omega
                  · have : qd r l kk = n := by rw [qd_end (by rw [Hl.out]; omega), Hn.out]
                    omega
                have Hq1 := Lib.hid hq1
                clear hc hq1 c0
                go_wp2
                go_meet
                case rel => exact ⟨kk, rfl, hkk, rfl, Lib.hid ⟨fun h => by have := Hq.out.1 h; omega, Hq1.out⟩, rfl⟩
            case rest =>
              obtain ⟨kk', rfl, hkk', rfl, Hq', rfl⟩ := hcut
              have hstep : (0 < (r.day t).need → Eaten r l t) → ∀ t', t' < t + 1 → 0 < (r.day t').need → Eaten r l t' := fun h t' ht' hn' => by
                by_cases e : t' = t
                · subst e; exact h hn'
                · exact Hall.out t' (by omega) hn'
              have hbadt : 0 < (r.day t).need → ¬ (0 < kk' ∧ (t : Int) < qd r l (kk' - 1) + r.keep) → res = false := fun h1 h2 => Bad.out (fun hp => h2 (hp.eaten hok h1 (by rw [Hl.out]; exact hkk') (fun h => by have := Hq'.out.1 h; omega) (by have := Hq'.out.2; omega)))
              have Step := Lib.hid hstep
              have Badt := Lib.hid hbadt
              clear Hq hkk hk0 hstep hbadt
              have hk0 : (0 : Int) ≤ (kk' : Int) := by omega
              by_cases hnd : 0 < (r.day t).need
              · by_cases hkp : 0 < kk'
                · have hla : lastN r l kk' = (qd r l (kk' - 1) : Nat) := by unfold lastN; rw [if_neg (by omega)]
                  have hp1 := Hq'.out.1 hkp
                  have hpn : qd r l (kk' - 1) < n := by omega
                  have heat : (t : Int) < qd r l (kk' - 1) + r.keep → Eaten r l t := fun h => ⟨kk', hkp, by rw [Hl.out]; exact hkk', by omega, by have := Hq'.out.2; omega, h⟩
                  have hbt := fun (h : ¬ (t : Int) < qd r l (kk' - 1) + r.keep) => Badt.out hnd (fun h2 => h h2.2)
                  have Heat := Lib.hid heat
                  have Hbt := Lib.hid hbt
                  have Hla := Lib.hid hla
                  rw [hla]
                  clear heat hla hbt Badt
                  generalize hpq : qd r l (kk' - 1) = pq at *
                  have Hpq := Lib.hid hpq
                  clear hpq
                  generalize (r.day t).need = nd at *
                  have hp0 : ¬ (pq : Int) < 0 := by omega
                  have hkp' := hok.2.1
                  by_cases hle : (t : Int) < (pq : Int) + r.keep
                  · have Hg := Lib.hid (Step.out (fun _ => Heat.out hle))
                    go_wp2
                    go_roundw
                    case rel => exact ⟨kk', t + 1, by go_num, by omega, rfl, hkk', int_congr Hla.out.symm, by rw [Hpq.out]; exact Hq', Hg, hb, hBr⟩
                    case measure => simp [intOf]; omega
                  · have Hr := Lib.hid (Hbt.out hle)
                    have hle' : (pq : Int) + r.keep ≤ (t : Int) := by omega
                    clear hle
                    go_wp2
                    go_ret
                    exact ⟨ret_congr (bool_congr Hr.out.symm), hb⟩
                · obtain rfl : kk' = 0 := by omega
                  have Hr := Lib.hid (Badt.out hnd (fun h => by omega))
                  have hla : lastN r l 0 = -1 := rfl
                  rw [hla]
                  clear hkp hla
                  go_wp2
                  go_ret
                  exact ⟨ret_congr (bool_congr Hr.out.symm), hb⟩
              · have Hg := Lib.hid (Step.out (fun h => absurd h hnd))
                go_wp2
                go_roundw
                case rel => exact ⟨kk', t + 1, by go_num, by omega, rfl, hkk', rfl, Hq', Hg, hb, hBr⟩
                case measure => simp [intOf]; omega
        · obtain rfl : t = n := by omega
          have Hr := Lib.hid (Good.out (fun t' h1 h2 => Hall.out t' (by rw [Hn.out] at h1; exact h1) h2))
          go_wp2
          go_ret
          exact ⟨ret_congr (bool_congr Hr.out.symm), hb⟩
end Go.Proofs.Ytopfhinnamhoiaa

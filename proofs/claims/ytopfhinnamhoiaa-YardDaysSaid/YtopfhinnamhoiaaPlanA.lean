/- Walk: plan. -/
import Derived.Test.YtopfhinnamhoiaaOwn
import Derived.Maps.RangeWalk
import Derived.Test.YtopfhinnamhoiaaBuyA
import Derived.Test.YtopfhinnamhoiaaSpecC
namespace Go.Proofs.Ytopfhinnamhoiaa
open Go.RowKit Go.Bs Go.Yd Go.Pl Go.Sort

def natsI (l : List Nat) : List Int := l.map Int.ofNat
theorem et24 : ElemT Try.prog 24 3 1 8 := ElemT.mk Try.underlying24 info3 rfl

def PlanPost (r : Rd) (w : World) (e : Ending) (w' : World) : Prop := ∃ v, e = .returned v ∧ FreshL w w' 1 encI v (natsI r.planN) ∧ Below w.heap.size w w'

set_option maxRecDepth 100000 in
set_option maxHeartbeats 4000000 in
theorem plan_any (r : Rd) (A : Option Addr) (n cap Bf Bt : Nat) (w : World) (hok : r.ok) (hn : r.days.length = n) (hcap : n ≤ cap) (hd : RdAt w A r) (hF : IArr w Bf 3 (tab (n + 1) r.frm)) (hG : IArr w Bt 3 (tab (n + 1) r.tbl)) (hM : r.tbl 0 < 1000000000) :
    Calls Try.prog 91 #[.agg #[.slice A n cap, .int .i64 r.keep, .slice (some ⟨Bf, 0, none⟩) (n + 1) (n + 1), .slice (some ⟨Bt, 0, none⟩) (n + 1) (n + 1)]] w (PlanPost r w) := by
  have hn30 := hok.1
  obtain ⟨W0, hW0⟩ : ∃ W0, W0 = w.alloc (.cells #[.slice A n cap, .int .i64 r.keep, .slice (some ⟨Bf, 0, none⟩) (n + 1) (n + 1), .slice (some ⟨Bt, 0, none⟩) (n + 1) (n + 1)] 148) := ⟨_, rfl⟩
  have hb0 : Below w.heap.size w W0 := by rw [hW0]; exact ext_alloc _ _
  have hs0 : W0.heap.size = w.heap.size + 1 := by rw [hW0]; simp
  have x0 : W0.cell? ⟨w.heap.size, 0, none⟩ = some (.slice A n cap) := by rw [hW0]; simp
  have x1 : W0.cell? ⟨w.heap.size, 1, none⟩ = some (.int .i64 r.keep) := by rw [hW0]; simp
  have x2 : W0.cell? ⟨w.heap.size, 2, none⟩ = some (.slice (some ⟨Bf, 0, none⟩) (n + 1) (n + 1)) := by rw [hW0]; simp
  have x3 : W0.cell? ⟨w.heap.size, 3, none⟩ = some (.slice (some ⟨Bt, 0, none⟩) (n + 1) (n + 1)) := by rw [hW0]; simp
  have hd0 := hd.ext hb0
  have hF0 := hF.ext hb0
  have hG0 := hG.ext hb0
  clear hd hF hG
  have t0 : W0.cell? ⟨Bt, 0, none⟩ = some (.int .i64 (r.tbl 0)) := hG0.cell (tab_get _ (by omega))
  have hp0 : (0 : Int) < (n : Int) + 1 := by omega
  have Hs0 := Lib.hid hs0
  have HW0 := Lib.hid hW0
  clear hs0
  go_enter Try.func91, Try.ntmps91
  go_upto_region 1 with fail
  rw [← HW0.out]
  clear hW0
  go_upto_region 2 with fail
  go_cut [21] (fun z W => z = .bool (decide (r.tbl 0 = 0 ∧ r.need 0 n = 0)) ∧ Below W0.heap.size W0 W)
  case first =>
    by_cases hz : r.tbl 0 = 0
    · have hz' : (r.tbl 0 == 0) = true := by rw [hz]; rfl
      have Hz := Lib.hid hz
      clear hz
      go_wp2_with fail
      refine (need_any r A n cap r.keep 0 (n : Int) _ hok hn hcap (by omega) (by omega) (by omega) hd0).mono ?_; rintro e w1 ⟨rfl, hb1⟩
      go_wp2
      go_meet
      case rel => exact ⟨bool_congr (by simp [Hz.out]; rfl), hb1⟩
    · have hz' : (r.tbl 0 == 0) = false := by simpa using hz
      have Hz := Lib.hid hz
      clear hz
      go_wp2
      go_meet
      case rel => exact ⟨bool_congr (by simp [Hz.out]), ext_refl _⟩
  case rest =>
    obtain ⟨rfl, hb1⟩ := hcut
    by_cases hz : r.tbl 0 = 0 ∧ r.need 0 n = 0
    · rw [decide_eq_true hz]
      have Hz := Lib.hid hz
      clear hz
      go_wp2
      go_ret
      exact ⟨_, rfl, by unfold Rd.planN; rw [if_pos (by rw [hn]; exact Hz.out)]; exact FreshL.nil _ _ _ _, ext_trans hb0 hb1⟩
    · rw [decide_eq_false hz]
      have hfst := r.first_spec (by rw [hn]; exact hz)
      have hplan : r.chain n r.first = r.planN := by unfold Rd.planN; rw [if_neg (by rw [hn]; exact hz), hn]
      have Hfst := Lib.hid hfst.2
      have hf1 := hfst.1
      have Hplan := Lib.hid hplan
      have hfn : firstN (fun t => r.frm t == r.tbl 0) (n + 1) 0 = r.first := by unfold Rd.first; rw [hn]
      have Hfn := Lib.hid hfn
      clear hz hfst hplan hfn
      have HX := Lib.hid (And.intro x0 (And.intro x1 (And.intro x2 (And.intro x3 t0))))
      clear x3 x2 x1 x0 t0
      go_wp2
      go_loopw [4] (fun x wr => ∃ s k, x = .int .i64 (s : Nat) ∧ Hid (firstN (fun t => r.frm t == r.tbl 0) k s = r.first) ∧ Hid (s + k = n + 1) ∧ s ≤ r.first ∧ Below W0.heap.size W0 wr) (fun x _ => (n + 1 - intOf x).toNat)
      case atStart => exact ⟨0, n + 1, by go_num, Lib.hid Hfn.out, Lib.hid (by omega), by omega, hb1⟩
      case round =>
        clear hb1
        obtain ⟨s, k, rfl, Hk, Hsk, hs1, hb1⟩ := hrel
        have hs0 : (0 : Int) ≤ s := by omega
        have hs2 : (s : Int) < (n : Int) + 1 := by omega
        go_wp2
        refine Dr.wp_region_plan 10 [] (.q [0, 1, 2, 3, 4, 5, 6, 7, 8, 9] .done) (by kernel_rfl) (by kernel_rfl) ?_
        generalize hW : World.drew _ = W
        have hb2 : Below W0.heap.size W0 W := by rw [← hW]; exact hb1.drew
        clear hW hb1
        have q0 := Dr.cell0 (cell_ext HX.out.1 hb2)
        have q1 := Dr.cell0 (cell_ext HX.out.2.1 hb2)
        have q2 := Dr.cell0 (cell_ext HX.out.2.2.1 hb2)
        have q3 := Dr.cell0 (cell_ext HX.out.2.2.2.1 hb2)
        have q4 := Dr.cell0 (cell_ext HX.out.2.2.2.2 hb2)
        have q5 := Dr.cell0 ((hF0.ext hb2).cell (tab_get r.frm (show s < n + 1 by omega)))
        refine Dr.plan_q (l := [_, _, _, _, _, _, _, _, _, _]) rfl (fun K hK => ?_)
        iterate 10 (go_big_quiet_step (fail))
        refine wpQuiet_nil (hK _ ?_); clear hK K
        refine Dr.plan_end rfl ?_
        clear q0 q1 q2 q3 q4 q5
        cases hq : (r.frm s != r.tbl 0)
        · have hsf : s = r.first := by
            rw [← Hk.out]
            cases k with
            | zero => rfl
            | succ k =>
              unfold firstN
              rw [if_pos (by simpa using hq)]
          clear hq Hk Hsk
          have hfrm : r.frm s < 1000000000 := by rw [hsf, Hfst.out]; exact hM
          have Hfrm := Lib.hid hfrm
          have hp0 : Hid (([] : List Nat) ++ r.chain n s = r.planN) := Lib.hid (by rw [hsf, List.nil_append, Hplan.out])
          have hsn : s < n := by omega
          clear hsf hfrm Hfst
          go_wp2_with (at_builtin; refine app1 encI 24 3 1 8 et24 (by decide) (by decide) encI_len encI_one rfl _ _ rfl W0.heap.size _ [] rfl OwnL.nil W.heap.size rfl (s : Int) (encI_cell (by simp)) (by simp) (by simp; have := hb2.size; omega) ?_; intro g' cap' w' hown hb3 _ _)
          have hb4 := ((hb2.alloc (o := .cells #[.int .i64 (s : Int)] 3) (by have := hb2.size; omega)).trans hb3)
          clear hb2 hb3
          have hown0 : OwnL w' W0.heap.size 3 1 encI (.slice (some ⟨g', 0, none⟩) 1 cap') (natsI ([] ++ [s])) := hown
          clear hown
          go_loopw [2, 4] (fun v x wr => ∃ (t : Nat) (done : List Nat) (k : Nat), x = .int .i64 t ∧ t < n ∧ Hid (n - t ≤ k) ∧ Hid (r.frm t < 1000000000) ∧ OwnL wr W0.heap.size 3 1 encI v (natsI (done ++ [t])) ∧ Hid (done ++ r.chain k t = r.planN) ∧ Hid (done.length ≤ t) ∧ Below W0.heap.size W0 wr) (fun _ x _ => (n - intOf x).toNat)
          case atStart => exact ⟨s, [], n, rfl, hsn, Lib.hid (by omega), Hfrm, hown0, hp0, Lib.hid (by simp), hb4⟩
          case round =>
            clear hown0 hb4 hp0 Hfrm hsn
            obtain ⟨t, done, k, rfl, htn, Hk, Hfrm, hown, Hp, Hlen, hb1⟩ := hrel
            have ht0 : (0 : Int) ≤ t := by omega
            have ht1 : (t : Int) < (n : Int) + 1 := by omega
            go_upto_region 8 with fail
            go_cut [55] (fun z W => z = .bool (r.feeds t n && (r.price t n == r.frm t)) ∧ Below wr.heap.size wr W)
            case first =>
              have hb2 := hb1.drew
              refine Dr.wp_region_plan 18 [] (.q [0, 1, 2, 3] (.e1 4 (.q [5, 6, 7, 8, 9, 11, 12, 13, 14, 15] (.e1 10 (.q [16, 17] .done))))) (by kernel_rfl) (by kernel_rfl) ?_
              have hbw := ext_drew wr
              generalize World.drew _ = W at *
              have q0 := Dr.cell0 (cell_ext HX.out.1 hb2)
              have q1 := Dr.cell0 (cell_ext HX.out.2.1 hb2)
              have q2 := Dr.cell0 (cell_ext HX.out.2.2.1 hb2)
              have hfe := feeds_any r A n cap t n W hok hn hcap (by omega) (by omega) (hd0.ext hb2)
              cases hq : r.feeds t n
              · rw [hq] at hfe
                have Hfe := Lib.hid hfe
                have Hq := Lib.hid hq
                clear hfe hq
                refine Dr.plan_q (l := [_, _, _, _]) rfl (fun K hK => ?_)
                iterate 4 (go_big_quiet_step (fail))
                refine wpQuiet_nil (hK _ ?_); clear hK K
                refine Dr.plan_e rfl (by rfl) (fun K hK => ?_)
                go_wp2_with fail
                refine Hfe.out.mono ?_; rintro e w1 ⟨rfl, hb3⟩
                refine hK _ _ (.of hb3) ?_; clear hK K
                refine Dr.plan_q (l := [_, _, _, _, _, _, _, _, _, _]) rfl (fun K hK => ?_)
                iterate 10 (go_big_quiet_step (fail))
                refine wpQuiet_nil (hK _ ?_); clear hK K
                refine Dr.plan_e_skip rfl (by rfl) ?_
                go_frame
                refine Dr.plan_q (l := [_, _]) rfl (fun K hK => ?_)
                iterate 2 (go_big_quiet_step (fail))
                refine wpQuiet_nil (hK _ ?_); clear hK K
                refine Dr.plan_end rfl ?_
                go_wp2
                go_meet
                case rel => exact ⟨bool_congr (by rw [Hq.out]; rfl), ext_trans hbw hb3⟩
              · rw [hq] at hfe
                have Hfe := Lib.hid hfe
                have Hq := Lib.hid hq
                clear hfe hq
                refine Dr.plan_q (l := [_, _, _, _]) rfl (fun K hK => ?_)
                iterate 4 (go_big_quiet_step (fail))
                refine wpQuiet_nil (hK _ ?_); clear hK K
                refine Dr.plan_e rfl (by rfl) (fun K hK => ?_)
                go_wp2_with fail
                refine Hfe.out.mono ?_; rintro e w1 ⟨rfl, hb3⟩
                refine hK _ _ (.of hb3) ?_; clear hK K
                have hb4 := hb2.trans (hb3.mono hb2.size)
                have hbw4 := ext_trans hbw hb3
                clear q0 q1 q2
                have q0 := Dr.cell0 (cell_ext HX.out.1 hb4)
                have q1 := Dr.cell0 (cell_ext HX.out.2.1 hb4)
                have q2 := Dr.cell0 (cell_ext HX.out.2.2.1 hb4)
                have q5 := Dr.cell0 ((hF0.ext hb4).cell (tab_get r.frm (show t < n + 1 by omega)))
                refine Dr.plan_q (l := [_, _, _, _, _, _, _, _, _, _]) rfl (fun K hK => ?_)
                iterate 10 (go_big_quiet_step (fail))
                refine wpQuiet_nil (hK _ ?_); clear hK K
                refine Dr.plan_e rfl (by rfl) (fun K hK => ?_)
                go_wp2_with fail
                refine (price_any r A n cap t n _ hok hn hcap (by omega) (by omega) (hd0.ext hb4)).mono ?_; rintro e w2 ⟨rfl, hb5⟩
                refine hK _ _ (.of hb5) ?_; clear hK K
                refine Dr.plan_q (l := [_, _]) rfl (fun K hK => ?_)
                iterate 2 (go_big_quiet_step (fail))
                refine wpQuiet_nil (hK _ ?_); clear hK K
                refine Dr.plan_end rfl ?_
                go_wp2
                go_meet
                case rel => exact ⟨bool_congr (by rw [Hq.out]; rfl), ext_trans hbw4 hb5⟩
            case rest =>
              obtain ⟨rfl, hb2⟩ := hcut
              have hb3 := hb1.trans (hb2.mono hb1.size)
              have hown2 := hown.ext hb2
              clear hb1 hb2 hown
              cases hq : (r.feeds t n && (r.price t n == r.frm t))
              · have Hq := Lib.hid hq
                clear hq
                have hnx := r.next_spec hok (t := t) (by omega) Hfrm.out
                have hn1 := hnx.1
                have hn2 : r.next t ≤ n := by have := hnx.2.1; omega
                have Hn3 := Lib.hid hnx.2.2.1
                have Hn4 := Lib.hid hnx.2.2.2
                have hfn : firstN (r.nextP t) (n - t) (t + 1) = r.next t := by unfold Rd.next; rw [hn]
                have Hfn := Lib.hid hfn
                clear hnx hfn
                go_wp2
                go_loopw [5] (fun x wr => ∃ s k, x = .int .i64 (s : Nat) ∧ Hid (firstN (r.nextP t) k s = r.next t) ∧ Hid (s + k = n + 1) ∧ t + 1 ≤ s ∧ s ≤ r.next t ∧ OwnL wr W0.heap.size 3 1 encI u2 (natsI (done ++ [t])) ∧ Below W0.heap.size W0 wr) (fun x _ => (n + 1 - intOf x).toNat)
                case atStart => exact ⟨t + 1, n - t, by go_num, Hfn, Lib.hid (by omega), by omega, hn1, hown2, hb3⟩
                case round =>
                  clear hown2 hb3 Hfn
                  obtain ⟨s, k', rfl, Hk', Hsk, hs1, hsn, hown, hb1⟩ := hrel
                  go_wp2
                  have hbw := ext_drew wr
                  refine Dr.wp_region_plan 17 [] (.q [0, 1, 2, 3, 5, 6, 7, 8, 9, 11, 12, 13, 14, 15] (.e1 4 (.q [10, 16] .done))) (by kernel_rfl) (by kernel_rfl) ?_
                  have hb2 := hb1.drew
                  have hown2 := hown.ext hbw
                  clear hown hb1 hbw
                  generalize World.drew _ = W at *
                  have hs0 : (0 : Int) ≤ s := by omega
                  have hs2 : (s : Int) < (n : Int) + 1 := by omega
                  have q0 := Dr.cell0 (cell_ext HX.out.1 hb2)
                  have q1 := Dr.cell0 (cell_ext HX.out.2.1 hb2)
                  have q2 := Dr.cell0 (cell_ext HX.out.2.2.1 hb2)
                  have q5 := Dr.cell0 ((hF0.ext hb2).cell (tab_get r.frm (show t < n + 1 by omega)))
                  have q6 := Dr.cell0 ((hF0.ext hb2).cell (tab_get r.frm (show s < n + 1 by omega)))
                  refine Dr.plan_q (l := [_, _, _, _, _, _, _, _, _, _, _, _, _, _]) rfl (fun K hK => ?_)
                  iterate 14 (go_big_quiet_step (fail))
                  refine wpQuiet_nil (hK _ ?_); clear hK K
                  refine Dr.plan_e rfl (by rfl) (fun K hK => ?_)
                  go_wp2_with fail
                  refine (price_any r A n cap t s _ hok hn hcap (by omega) (by omega) (hd0.ext hb2)).mono ?_; rintro e w1 ⟨rfl, hb3⟩
                  refine hK _ _ (.of hb3) ?_; clear hK K
                  have hp := r.price_nonneg hok (i := t) (by omega) s
                  have hfb := Rd.frm_bd hok s
                  refine Dr.plan_q (l := [_, _]) rfl (fun K hK => ?_)
                  iterate 2 (go_big_quiet_step (fail))
                  refine wpQuiet_nil (hK _ ?_); clear hK K
                  refine Dr.plan_end rfl ?_
                  clear q0 q1 q2 q5 q6
                  have hb4 := hb2.trans (hb3.mono hb2.size)
                  have hown4 := hown2.ext hb3
                  clear hb2 hb3 hown2
                  cases hq : (r.price t s + r.frm s != r.frm t)
                  · have hsx : s = r.next t := by
                      rw [← Hk'.out]
                      cases k' with
                      | zero => rfl
                      | succ k' =>
                        unfold firstN
                        rw [if_pos (by unfold Rd.nextP; simpa using hq)]
                    clear hq Hk' Hsk hp hfb
                    have Hsx := Lib.hid hsx
                    have hch : r.chain k t = if s = n then [t] else t :: r.chain (k - 1) s := by
                      cases k with
                      | zero => exfalso; have := Hk.out; omega
                      | succ k =>
                        conv => lhs; unfold Rd.chain
                        rw [hn, Hq.out, if_neg (by simp), ← hsx]
                        rfl
                    clear hsx
                    by_cases hse : s = n
                    · have hpl2 : r.planN = done ++ [t] := by rw [← Hp.out, hch, if_pos hse]
                      have Hpl2 := Lib.hid hpl2
                      clear hch hpl2
                      go_wp2
                      go_ret
                      exact ⟨_, rfl, by rw [Hpl2.out]; exact FreshL.of_own hown4 encI_len hb0.size, hb0.trans (hb4.mono hb0.size)⟩
                    · have hpl2 : (done ++ [t]) ++ r.chain (k - 1) s = r.planN := by rw [← Hp.out, hch, if_neg hse]; simp
                      have Hpl2 := Lib.hid hpl2
                      have hsn2 : s < n := by omega
                      have hll : (natsI (done ++ [t])).length ≤ 1000000 := by have := Hlen.out; simp [natsI]; omega
                      have hen : (natsI (done ++ [t])) ++ [(s : Int)] = natsI ((done ++ [t]) ++ [s]) := by simp [natsI]
                      have Hen := Lib.hid hen
                      have hse' : ((s : Int) == n) = false := by simp; omega
                      clear hch hpl2 hen
                      go_wp2_with (at_builtin; refine app1 encI 24 3 1 8 et24 (by decide) (by decide) encI_len encI_one rfl _ _ rfl W0.heap.size _ _ rfl (hown4.alloc _) w1.heap.size rfl (s : Int) (encI_cell (by simp)) hll (by simp; have := hb4.size; omega) ?_; intro g2 cap2 w2 hown5 hb5 _ _)
                      rw [Hen.out] at hown5
                      have hb6 := (hb4.alloc (o := .cells #[.int .i64 (s : Int)] 3) (by have := hb4.size; omega)).trans hb5
                      refine ⟨⟨s, done ++ [t], k - 1, rfl, hsn2, Lib.hid (by have := Hk.out; omega), Lib.hid (by rw [Hsx.out]; exact Hn4.out), hown5, Hpl2, Lib.hid (by have := Hlen.out; simp; omega), hb6⟩, ?_⟩
                      simp [intOf]; omega
                  · have hk1 : Hid (firstN (r.nextP t) (k' - 1) (s + 1) = r.next t) := Lib.hid (by
                      rw [← Hk'.out]
                      cases k' with
                      | zero => exfalso; have := Hsk.out; omega
                      | succ k' =>
                        refine (firstN_step ?_).symm
                        unfold Rd.nextP
                        simpa using hq)
                    have hlt : s + 1 ≤ r.next t := by
                      rcases Nat.lt_or_ge s (r.next t) with h | h
                      · exact h
                      · exfalso
                        have e : s = r.next t := by omega
                        have h3 := Hn3.out
                        rw [← e] at h3
                        unfold Rd.nextP at h3
                        simp at h3
                        simp [h3] at hq
                    clear hq Hk' hp hfb
                    go_wp2
                    go_roundw
                    case rel => exact ⟨s + 1, k' - 1, by go_num, hk1, Lib.hid (by have := Hsk.out; omega), by omega, hlt, hown4, hb4⟩
                    case measure => simp [intOf]; omega
              · have hpl : r.chain k t = [t] := by
                  cases k with
                  | zero => rfl
                  | succ k => unfold Rd.chain; rw [hn, if_pos hq]
                have hpl2 : r.planN = done ++ [t] := by rw [← Hp.out, hpl]
                have Hpl2 := Lib.hid hpl2
                clear hq hpl hpl2
                go_wp2
                go_ret
                exact ⟨_, rfl, by rw [Hpl2.out]; exact FreshL.of_own hown2 encI_len hb0.size, hb0.trans (hb3.mono hb0.size)⟩
        · have hk1 : Hid (firstN (fun t => r.frm t == r.tbl 0) (k - 1) (s + 1) = r.first) := Lib.hid (by
            rw [← Hk.out]
            cases k with
            | zero => exfalso; have := Hsk.out; omega
            | succ k =>
              refine (firstN_step ?_).symm
              simpa using hq)
          have hlt : s + 1 ≤ r.first := by
            rcases Nat.lt_or_ge s r.first with h | h
            · exact h
            · exfalso
              have e : s = r.first := by omega
              rw [e, Hfst.out] at hq
              simp at hq
          clear hq Hk
          go_wp2
          go_roundw
          case rel => exact ⟨s + 1, k - 1, by go_num, hk1, Lib.hid (by have := Hsk.out; omega), hlt, hb2⟩
          case measure => simp [intOf]; omega
end Go.Proofs.Ytopfhinnamhoiaa

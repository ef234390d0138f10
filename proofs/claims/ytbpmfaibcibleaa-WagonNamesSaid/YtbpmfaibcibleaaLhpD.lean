/- Walk: before, cut. (Printed by mk_lhpd.py.) -/
import Derived.Test.YtbpmfaibcibleaaLhpA
import Derived.Test.YtbpmfaibcibleaaWaD
import Derived.Test.YtbpmfaibcibleaaClbR
namespace Go.Proofs.Ytbpmfaibcibleaa
open Go.RowKit Go.Bs Go.Wg Go.Pl Go.Sort
set_option maxRecDepth 100000 in
set_option maxHeartbeats 1000000 in
theorem before_any (A B : Option Addr) (n m c d : Nat) (l1 l2 : List Int) (w : World) (h1 : l1.length = n) (h2 : l2.length = m) (m1 : n ≤ 1000000000) (m2 : m ≤ 1000000000) (hA : Cells w A 1 Go.Bs.encI l1) (hB : Cells w B 1 Go.Bs.encI l2) :
    Calls Try.prog 78 #[.slice A n c, .slice B m d] w fun e w' => e = .returned (.bool (befB l1 l2)) ∧ Below w.heap.size w w' := by
  by_cases hnm : n = m
  · subst hnm
    generalize hres : befB l1 l2 = res
    unfold befB at hres
    rw [if_pos (by rw [h1, h2])] at hres
    have Hres := Lib.hid hres
    clear hres
    go_enter Try.func78, Try.ntmps78
    go_wp2
    go_loopw [5] (fun x wr => ∃ k : Nat, x = .int .i64 k ∧ k ≤ n ∧ Hid (lexB (l1.drop k) (l2.drop k) = res) ∧ Below w.heap.size w wr) (fun x _ => n - (intOf x).toNat)
    case atStart => exact ⟨0, rfl, by omega, Lib.hid (by rw [List.drop_zero, List.drop_zero]; exact Hres.out), Below.refl _ _⟩
    case round =>
      obtain ⟨k, rfl, hk, Hk, hb⟩ := hrel
      by_cases hlt : k < n
      · have hlt' : (k : Int) < n := by omega
        have hk0 : (0 : Int) ≤ k := by omega
        go_upto_region 6 with fail
        refine Dr.wp_region_plan 9 [] (.q [0, 1, 2, 3, 4, 5, 6, 7, 8] .done) (by kernel_rfl) (by kernel_rfl) ?_
        have hb2 := hb.drew
        clear hb
        generalize World.drew _ = W at *
        have k1 : k < l1.length := by rw [h1]; exact hlt
        have k2 : k < l2.length := by rw [h2]; exact hlt
        obtain ⟨b1, o1, rfl, -, d1⟩ := (hA.ext hb2).at1 k1 rfl
        obtain ⟨b2, o2, rfl, -, d2⟩ := (hB.ext hb2).at1 k2 rfl
        have q1 := Dr.cell0 d1
        have q2 := Dr.cell0 d2
        have Hst := Lib.hid (show (if l1[k] = l2[k] then lexB (l1.drop (k + 1)) (l2.drop (k + 1)) else decide (l1[k] < l2[k])) = res by
          rw [← Hk.out, List.drop_eq_getElem_cons k1, List.drop_eq_getElem_cons k2]; rfl)
        generalize l1[k] = x at *
        generalize l2[k] = y at *
        refine Dr.plan_q (l := [_, _, _, _, _, _, _, _, _]) rfl (fun K hK => ?_)
        iterate 9 (go_big_quiet_step (fail))
        refine wpQuiet_nil (hK _ ?_); clear hK K
        refine Dr.plan_end rfl ?_
        clear q1 q2
        by_cases hq : x = y
        · have Hn := Lib.hid (show lexB (l1.drop (k + 1)) (l2.drop (k + 1)) = res by rw [← Hst.out, if_pos hq])
          have hq' : (x != y) = false := by simp [hq]
          clear hq d1 d2
          go_wp2
          go_roundw
          case rel => exact ⟨k + 1, by go_num, by omega, Hn, hb2⟩
          case measure => simp [intOf]; omega
        · have Hr := Lib.hid (show decide (x < y) = res by rw [← Hst.out, if_neg hq])
          have hq' : (x != y) = true := by simp [hq]
          clear hq
          go_upto_region 7 with fail
          refine Dr.wp_region_plan 10 [] (.q [0, 1, 2, 3, 4, 5, 6, 7, 8, 9] .done) (by kernel_rfl) (by kernel_rfl) ?_
          have hb3 := hb2.drew
          have q1 := Dr.cell0 (w := W.drew) d1
          have q2 := Dr.cell0 (w := W.drew) d2
          generalize World.drew W = W2 at *
          refine Dr.plan_q (l := [_, _, _, _, _, _, _, _, _, _]) rfl (fun K hK => ?_)
          iterate 10 (go_big_quiet_step (fail))
          refine wpQuiet_nil (hK _ ?_); clear hK K
          refine Dr.plan_end rfl ?_
          clear q1 q2 d1 d2
          go_wp2
          go_ret
          exact ⟨ret_congr (bool_congr Hr.out), hb3⟩
      · obtain rfl : k = n := by omega
        have Hr := Lib.hid (show false = res by
          have e := Hk.out
          rw [List.drop_of_length_le (by omega)] at e
          rw [← e]; rfl)
        go_wp2
        go_ret
        exact ⟨ret_congr (bool_congr Hr.out), hb⟩
  · have Hr := Lib.hid (show decide (m < n) = befB l1 l2 by
      unfold befB
      rw [if_neg (by rw [h1, h2]; exact hnm), h1, h2])
    have hnm' : ((n : Int) != (m : Int)) = true := by simp; omega
    go_enter Try.func78, Try.ntmps78
    go_wp2
    go_ret
    exact ⟨ret_congr (bool_congr Hr.out), Below.refl _ _⟩
/-- are rows few and short? -/
def cutB (n : Nat) (p : List (List Int)) : Bool := p.all (fun l => decide (l.length ≤ 20)) && decide (n ≤ 10)
set_option maxHeartbeats 1000000 in
theorem cut_any (A : Option Addr) (n c : Nat) (rs : List RwV) (w : World) (hn : rs.length = n) (hm : n ≤ 9223372036854775807) (hd : Cells w A 1 RwV.enc rs) :
    Calls Try.prog 34 #[.slice A n c] w fun e w' => e = .returned (.bool (cutB n (rows rs))) ∧ w = w' := by
  generalize hres : cutB n (rows rs) = res
  have Hres := Lib.hid hres
  have Hn := Lib.hid (show (rows rs).length = n by rw [rows_len, hn])
  have Hn2 := Lib.hid hn
  clear hres hn
  unfold cutB at Hres
  go_enter Try.func34, Try.ntmps34
  go_wp2
  go_loop [3] (fun t => ∃ k : Nat, t = .int .i64 k ∧ k ≤ n ∧ Hid (((rows rs).take k).all (fun l => decide (l.length ≤ 20)) = true)) (fun t => n - (intOf t).toNat)
  case atStart => exact ⟨0, rfl, by omega, Lib.hid rfl⟩
  case round =>
    obtain ⟨k, rfl, hk, Hk⟩ := hrel
    by_cases hlt : k < n
    · have hlt' : (k : Int) < n := by omega
      have hkt : k < rs.length := by rw [Hn2.out]; exact hlt
      have hkr : k < (rows rs).length := by rw [Hn.out]; exact hlt
      obtain ⟨b, off, rfl, -, d0⟩ := hd.at1 hkt rfl
      have hg : (rows rs)[k] = rs[k].r := by simp [rows]
      have Hok := Lib.hid (show rs[k].r.length ≤ 20 → ((rows rs).take (k + 1)).all (fun l => decide (l.length ≤ 20)) = true from fun h => by
        rw [List.take_succ_eq_append_getElem hkr, List.all_append, Hk.out, hg]; simp [h])
      have Hno := Lib.hid (show ¬ rs[k].r.length ≤ 20 → false = res from fun h => by
        have h3 : (rows rs).all (fun l => decide (l.length ≤ 20)) = false := by
          refine Bool.eq_false_iff.2 fun h2 => ?_
          rw [List.all_eq_true] at h2
          have := h2 _ (List.getElem_mem hkr)
          rw [hg] at this
          exact h (of_decide_eq_true this)
        rw [← Hres.out, h3]; rfl)
      clear hg hkr
      generalize rs[k].A = A1 at *
      generalize rs[k].c = c1 at *
      generalize rs[k].r.length = n1 at *
      by_cases h20 : n1 ≤ 20
      · have h20' : ¬ (20 : Int) < (n1 : Int) := by omega
        have H2 := Lib.hid (Hok.out h20)
        go_wp2
        go_round
        case rel => exact ⟨k + 1, by go_num, by omega, H2⟩
        case measure => simp [intOf]; omega
      · have h20' : (20 : Int) < (n1 : Int) := by omega
        have Hr := Lib.hid (Hno.out h20)
        go_wp2
        go_ret
        exact ⟨ret_congr (bool_congr Hr.out), rfl⟩
    · obtain rfl : k = n := by omega
      have Hr := Lib.hid (show decide ((k : Int) ≤ 10) = res by
        rw [← Hres.out]
        have e := Hk.out
        rw [List.take_of_length_le (by rw [Hn.out]; omega)] at e
        rw [e, Bool.true_and]
        exact decide_eq_decide.2 (by omega))
      go_wp2
      go_ret
      exact ⟨ret_congr (bool_congr Hr.out), rfl⟩
end Go.Proofs.Ytbpmfaibcibleaa

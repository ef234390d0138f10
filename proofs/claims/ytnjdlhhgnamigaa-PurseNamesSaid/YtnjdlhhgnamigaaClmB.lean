/- Walk: the reference's claims. -/
import Derived.Test.YtnjdlhhgnamigaaClmA
namespace Go.Proofs.Ytnjdlhhgnamigaa
open Go.RowKit Go.Bs Go.Pu Go.Pl Go.Sort

set_option maxRecDepth 100000 in
theorem Losses_any (A : Option Addr) (n c : Nat) (l : List Int) (w : World) (hn : l.length = n) (hm : n ≤ 1000000000) (hd : Cells w A 1 encI l) :
    Calls Try.prog 26 #[.slice A n c] w fun e w' => e = .returned (.bool (lossB l)) ∧ Below w.heap.size w w' := by
  generalize hres : lossB l = res
  have Hres := Lib.hid hres
  clear hres
  go_enter Try.func26, Try.ntmps26
  go_wp2
  go_loopw [3] (fun x wr => ∃ k : Nat, x = .int .i64 k ∧ k ≤ n ∧ Hid (lossB (l.drop k) = res) ∧ Below w.heap.size w wr) (fun x _ => n - (intOf x).toNat)
  case atStart => exact ⟨0, rfl, by omega, Lib.hid (by simpa using Hres.out), Below.refl _ _⟩
  case round =>
    obtain ⟨k, rfl, hk, Hk, hb⟩ := hrel
    by_cases hlt : k < n
    · have hlt' : (k : Int) < n := by omega
      have hk0 : (0 : Int) ≤ k := by omega
      have k1 : k < l.length := by rw [hn]; exact hlt
      obtain ⟨b1, o1, rfl, -, d1⟩ := (hd.ext hb).at1 k1 rfl
      have hst : lossB (l.drop k) = (monB l[k] && lossB (l.drop (k + 1))) := by rw [List.drop_eq_getElem_cons k1]; rfl
      have Hst := Lib.hid hst
      clear hst
      generalize l[k] = x at *
      have C1 := Lib.hid (fun W => moneyR_any x W)
      generalize monB x = q at *
      go_wp2_with fail
      refine (C1.out _).mono ?_; rintro e w1 ⟨rfl, rfl⟩
      cases q
      · have Hr := Lib.hid (show res = false by rw [← Hk.out, Hst.out, Bool.false_and])
        go_wp2
        go_ret
        exact ⟨ret_congr (bool_congr Hr.out.symm), hb⟩
      have Hn := Lib.hid (show lossB (l.drop (k + 1)) = res by rw [← Hk.out, Hst.out, Bool.true_and])
      go_wp2
      go_roundw
      case rel => exact ⟨k + 1, by go_num, by omega, Hn, hb⟩
      case measure => simp [intOf]; omega
    · obtain rfl : k = n := by omega
      have Hr := Lib.hid (show res = true by rw [← Hk.out, List.drop_of_length_le (by omega)]; rfl)
      go_wp2
      go_ret
      exact ⟨ret_congr (bool_congr Hr.out.symm), hb⟩

theorem part_split {m q : Int} (_hm : 0 ≤ m) : m / 1000 * q + m % 1000 * q / 1000 = m * q / 1000 := by
  have h1 : m * q = m / 1000 * q * 1000 + m % 1000 * q := by
    have h2 := Int.mul_ediv_add_emod m 1000
    have h3 : m * q = (1000 * (m / 1000) + m % 1000) * q := by rw [h2]
    rw [h3, Int.add_mul, Int.mul_comm 1000, Int.mul_assoc, Int.mul_comm 1000, ← Int.mul_assoc]
  rw [h1]
  omega

set_option maxRecDepth 100000 in
set_option maxHeartbeats 2000000 in
theorem ClaimsR_any (p : Pol) (A : Option Addr) (n c : Nat) (l : List Int) (w : World) (hn : l.length = n) (hm : n ≤ 1000) (hd : Cells w A 1 encI l) (hok : p.okB = true) (hloss : lossB l = true) :
    Calls Try.prog 28 #[Pol.val p, .slice A n c] w fun e w' => ∃ v, e = .returned v ∧ FreshL w w' 1 encI v (p.pays p.most l) ∧ Below w.heap.size w w' := by
  have hb0 := ext_alloc w (.cells #[.int .i64 p.least, .int .i64 p.part, .int .i64 p.most] 43)
  have hB0 := Blk.new w 43 [.int .i64 p.least, .int .i64 p.part, .int .i64 p.most]
  have hpv : Pol.val p = .agg #[.int .i64 p.least, .int .i64 p.part, .int .i64 p.most] := rfl
  rw [hpv]; clear hpv
  unfold Pol.okB at hok
  rw [Bool.and_eq_true, Bool.and_eq_true, decide_eq_true_eq, decide_eq_true_eq, decide_eq_true_eq] at hok
  obtain ⟨hb3, hp2, hm3⟩ := hok
  have Hloss := Lib.hid hloss
  have Hn := Lib.hid hn
  clear hloss hn
  have hd1 := hd.ext hb0
  clear hd
  go_enter Try.func28, Try.ntmps28
  go_upto_region 3 with fail
  generalize (w.alloc (.cells #[.int .i64 p.least, .int .i64 p.part, .int .i64 p.most] 43)) = w1 at *
  go_wp2
  go_loopw [5, 6, 7, 8] (fun v y x _ wr => ∃ (k : Nat) (left : Int), y = .int .i64 left ∧ x = .int .i64 k ∧ k ≤ n ∧ OwnL wr w1.heap.size 3 1 encI v (p.pays p.most (l.take k)) ∧ (0 ≤ left ∧ left ≤ 1000000000000) ∧ Hid (left = p.most - isum (p.pays p.most (l.take k))) ∧ Below w1.heap.size w1 wr) (fun _ _ x _ _ => n - (intOf x).toNat)
  case atStart => exact ⟨0, p.most, rfl, rfl, by omega, OwnL.nil, hm3, Lib.hid (by simp [Pol.pays, isum]), Below.refl _ _⟩
  case round =>
    obtain ⟨k, left, rfl, rfl, hk, hown, hl, Hleft, hb⟩ := hrel
    by_cases hlt : k < n
    · have hlt' : (k : Int) < (n : Int) := by omega
      have hkl : k < l.length := by rw [Hn.out]; exact hlt
      have hx := List.all_eq_true.1 (show l.all (fun n => decide (0 ≤ n ∧ n ≤ 1000000000000)) = true from Hloss.out) l[k] (List.getElem_mem _)
      have hx := of_decide_eq_true hx
      have hs := pays_snoc p l[k] (l.take k) p.most
      rw [← List.take_succ_eq_append_getElem hkl, ← Hleft.out] at hs
      have hlen := pays_len p (l.take k) p.most
      rw [List.length_take] at hlen
      have HL := Lib.hid hlen
      have Hs := Lib.hid hs
      clear hs hlen
      have hdue : p.due l[k] = max 0 (l[k] - p.least) * p.part / 1000 := rfl
      have hmm : ∃ m, max 0 (l[k] - p.least) = m ∧ (0 ≤ m ∧ m ≤ 1000000000000) ∧ ((0 < l[k] - p.least ∧ m = l[k] - p.least) ∨ (¬ 0 < l[k] - p.least ∧ m = 0)) := ⟨_, rfl, by omega, by omega⟩
      obtain ⟨m, e1, e2, e3⟩ := hmm
      rw [e1] at hdue
      have hpr := mul_bd e2.1 e2.2 hp2.1 hp2.2
      have hp5 := mul_bd (a := m / 1000) (m := 1000000000) (by omega) (by omega) hp2.1 hp2.2
      have hp6 := mul_bd (a := m % 1000) (m := 1000) (by omega) (by omega) hp2.1 hp2.2
      have htd : m / 1000 * p.part + m % 1000 * p.part / 1000 = p.due l[k] := by rw [hdue, part_split e2.1]
      have hdb : 0 ≤ p.due l[k] ∧ p.due l[k] ≤ 1000000000000000 := by rw [hdue]; omega
      clear hdue e1
      have Hd := Lib.hid htd
      clear htd
      go_upto_region 6 with fail
      refine Dr.wp_region_plan 9 [] (.q [0, 1, 2, 3, 4, 5, 6, 7, 8] .done) (by kernel_rfl) (by kernel_rfl) ?_
      have hb2 := hb.drew
      have ho2 := hown.drew
      clear hown hb
      generalize World.drew _ = W at *
      obtain ⟨b, off, rfl, -, c0⟩ := (hd1.ext hb2).at1 hkl rfl
      generalize l[k] = x at *
      have q0 := Dr.cell0 c0
      have q1 := Dr.cell0 ((hB0.ext hb2).cell (i := 0) rfl)
      have y1 := (hB0.ext hb2).cell (i := 1) rfl
      clear c0
      rcases e3 with ⟨h, e⟩ | ⟨h, e⟩
      · subst e
        refine Dr.plan_q (l := [_, _, _, _, _, _, _, _, _]) rfl (fun K hK => ?_)
        iterate 9 (go_big_quiet_step (fail))
        refine wpQuiet_nil (hK _ ?_); clear hK K
        refine Dr.plan_end rfl ?_
        clear q0 q1
        go_upto_region 8 with fail
        rw [Hd.out, show (if p.due x < left then p.due x else left) = min left (p.due x) by split <;> omega]
        generalize hq : min left (p.due x) = q at *
        have hq' : 0 ≤ q ∧ q ≤ left := by omega
        have Hq := Lib.hid hq
        clear hq
        have hnew := Blk.new W 3 [.int .i64 q]
        go_wp2_with (at_builtin; refine app1 encI 27 3 1 8 et27 (by decide) (by decide) encI_len encI_one rfl _ _ rfl w1.heap.size _ (p.pays p.most (l.take k)) rfl (ho2.alloc _) W.heap.size rfl q (encI_cell (hnew.cell rfl)) (by rw [HL.out]; omega) (by have := hb2.size; simp; omega) ?_; intro g' cap' w' hown' hb3 _ _)
        have Hr := Lib.hid (show left - q = p.most - isum (p.pays p.most (l.take (k + 1))) by
          rw [Hs.out, isum_append, show isum [q] = q by simp [isum]]
          have := Hleft.out
          omega)
        rw [← Hs.out] at hown'
        have hb4 := (hb2.alloc hb2.size _).trans hb3
        go_roundw
        case rel => exact ⟨k + 1, left - q, rfl, by go_num, by omega, hown', by omega, Hr, hb4⟩
        case measure => simp [intOf]; omega
      · subst e
        refine Dr.plan_q (l := [_, _, _, _, _, _, _, _, _]) rfl (fun K hK => ?_)
        iterate 9 (go_big_quiet_step (fail))
        refine wpQuiet_nil (hK _ ?_); clear hK K
        refine Dr.plan_end rfl ?_
        clear q0 q1
        go_upto_region 8 with fail
        rw [show (if 0 < left then 0 else left) = min left 0 by split <;> omega]
        have e0 : (0 : Int) = p.due x := by have := Hd.out; simpa using this
        rw [← e0] at Hs hdb
        generalize hq : min left 0 = q at *
        have hq' : 0 ≤ q ∧ q ≤ left := by omega
        have Hq := Lib.hid hq
        clear hq
        have hnew := Blk.new W 3 [.int .i64 q]
        go_wp2_with (at_builtin; refine app1 encI 27 3 1 8 et27 (by decide) (by decide) encI_len encI_one rfl _ _ rfl w1.heap.size _ (p.pays p.most (l.take k)) rfl (ho2.alloc _) W.heap.size rfl q (encI_cell (hnew.cell rfl)) (by rw [HL.out]; omega) (by have := hb2.size; simp; omega) ?_; intro g' cap' w' hown' hb3 _ _)
        have Hr := Lib.hid (show left - q = p.most - isum (p.pays p.most (l.take (k + 1))) by
          rw [Hs.out, isum_append, show isum [q] = q by simp [isum]]
          have := Hleft.out
          omega)
        rw [← Hs.out] at hown'
        have hb4 := (hb2.alloc hb2.size _).trans hb3
        go_roundw
        case rel => exact ⟨k + 1, left - q, rfl, by go_num, by omega, hown', by omega, Hr, hb4⟩
        case measure => simp [intOf]; omega
    · obtain rfl : k = n := by omega
      go_wp2
      go_ret
      rw [List.take_of_length_le (by rw [Hn.out]; omega)] at hown
      exact ⟨_, rfl, FreshL.of_own hown encI_len (by have := hb0.size; omega), ext_trans hb0 hb⟩
end Go.Proofs.Ytnjdlhhgnamigaa

/- The law WagonHours: its walk. (Printed by mk_trqa.py.) -/
import Derived.Test.YtbpmfaibcibleaaTrqA
namespace Go.Wg
theorem tim_ge {d s b r : Nat} : ∀ k, k ≤ (tim d s b r k).1
  | 0 => by simp
  | k + 1 => by
    have h1 := tim_ge (d := d) (s := s) (b := b) (r := r) k
    have h2 := tim_more (d := d) (s := s) (b := b) (r := r) k
    omega
end Go.Wg
namespace Go.Proofs.Ytbpmfaibcibleaa
open Go.RowKit Go.Bs Go.Wg Go.Pl Go.Sort
theorem tripR_ok {a b c d : Int} {n : Nat} (h : (btw a 1 24 && btw b 1 a && btw c 0 8 && btw d 0 24) = true) (hn : n ≤ 200) : tripR a b c d n = (((tim a.toNat b.toNat c.toNat d.toNat n).1 : Int), 0) := by
  unfold tripR
  rw [h, show btw (n : Int) 0 200 = true by simp [btw]; omega]
  rfl
set_option maxRecDepth 100000 in
set_option maxHeartbeats 8000000 in
theorem hours_law (a b c d x p q : Int) (hx : 0 ≤ x ∧ x ≤ 255) (hp : 0 ≤ p ∧ p ≤ 255) (hq : 0 ≤ q ∧ q ≤ 255) (w : World) :
    Calls Try.prog 4 #[.agg #[.int .i64 a, .int .i64 b, .int .i64 c, .int .i64 d], .int .u8 x, .int .u8 p, .int .u8 q] w fun e w' => e = .returned (.bool true) ∧ Below w.heap.size w w' := by
  have V := Lib.hid (fun W => ruright4 a b c d W)
  cases hv : (btw a 1 24 && btw b 1 a && btw c 0 8 && btw d 0 24)
  case false =>
    rw [hv] at V
    clear hv
    have hb := ext_alloc w (.cells #[.int .i64 a, .int .i64 b, .int .i64 c, .int .i64 d] 23)
    have hP := Blk.new w 23 [.int .i64 a, .int .i64 b, .int .i64 c, .int .i64 d]
    go_enter Try.func4, Try.ntmps4
    go_upto_region 1 with fail
    change Blk (w.alloc (.cells #[.int .i64 a, .int .i64 b, .int .i64 c, .int .i64 d] 23)) _ _ _ at hP
    generalize w.alloc (.cells #[.int .i64 a, .int .i64 b, .int .i64 c, .int .i64 d] 23) = W0 at *
    have q0 : W0.cell? ⟨w.heap.size, 0, none⟩ = _ := hP.cell rfl
    have q1 : W0.cell? ⟨w.heap.size, 1, none⟩ = _ := hP.cell rfl
    have q2 : W0.cell? ⟨w.heap.size, 2, none⟩ = _ := hP.cell rfl
    have q3 : W0.cell? ⟨w.heap.size, 3, none⟩ = _ := hP.cell rfl
    go_wp2_with fail
    refine (V.out _).mono ?_; rintro e W1 ⟨rfl, hx⟩
    replace hP := hP.ext hx
    replace hb := ext_trans hb hx
    clear hx
    clear q0 q1 q2 q3
    go_wp2_with fail
    refine (awake_any _).mono ?_; rintro e W2 ⟨rfl, hx⟩
    replace hb := ext_trans hb hx
    clear hx
    go_wp2
    go_ret
    exact ⟨rfl, hb⟩
  case true =>
    rw [hv] at V
    obtain ⟨n, hn, hn2⟩ : ∃ n : Nat, x.tmod 200 = n ∧ n < 200 := by
      refine ⟨(x.tmod 200).toNat, ?_, ?_⟩
      · have h2 := Int.tmod_nonneg 200 hx.1
        omega
      · have h1 := Int.tmod_lt_of_pos x (show (0 : Int) < 200 by omega)
        have h2 := Int.tmod_nonneg 200 hx.1
        omega
    have hn' : x % 200 = (n : Int) := by rw [← Int.tmod_eq_emod_of_nonneg hx.1]; exact hn
    have T1 := Lib.hid (fun W => Trip_any a b c d n W)
    have T2 := Lib.hid (fun W => Trip_any a b c d ((n : Int) + 1) W)
    obtain ⟨c2, hc2⟩ : ∃ c2 : Int, min 8 (c + p) = c2 := ⟨_, rfl⟩
    obtain ⟨d2, hd2⟩ : ∃ d2 : Int, min 24 (d + q) = d2 := ⟨_, rfl⟩
    have T3 := Lib.hid (fun W => Trip_any a b c2 d2 n W)
    obtain ⟨ha, hb1, hc, hd⟩ := ru_parts hv
    have hv2 : (btw a 1 24 && btw b 1 a && btw c2 0 8 && btw d2 0 24) = true := by
      simp only [btw, Bool.and_eq_true, decide_eq_true_eq]
      omega
    rw [tripR_ok hv (by omega)] at T1
    rw [show (n : Int) + 1 = ((n + 1 : Nat) : Int) by omega, tripR_ok hv (by omega), Int.natCast_add] at T2
    rw [tripR_ok hv2 (by omega)] at T3
    have h1 := tim_ge (d := a.toNat) (s := b.toNat) (b := c.toNat) (r := d.toNat) n
    have h2 := tim_more (d := a.toNat) (s := b.toNat) (b := c.toNat) (r := d.toNat) n
    have h3 := tim_mono (d := a.toNat) (s := b.toNat) (b := c.toNat) (r := d.toNat) (b2 := c2.toNat) (r2 := d2.toNat) (by omega) (by omega) (by omega) n
    have h4 := Lib.hid (fun h => tim_stint (d := a.toNat) (s := b.toNat) (b := c.toNat) (r := d.toNat) (by omega) (by omega) (k := n) h)
    have h5 := (tim_bd a.toNat b.toNat c.toNat d.toNat (by omega) (by omega) (by omega) n).1
    generalize (tim a.toNat b.toNat c.toNat d.toNat n).1 = t1 at *
    generalize (tim a.toNat b.toNat c.toNat d.toNat (n + 1)).1 = t2 at *
    generalize (tim a.toNat b.toNat c2.toNat d2.toNat n).1 = t3 at *
    have h4 := Lib.hid (show b < (n : Int) ∨ t1 = n by
      by_cases h : n ≤ b.toNat
      · exact .inr (h4.out h)
      · exact .inl (by omega))
    have h50 : t1 ≤ 5000 := by omega
    have Hc2 := Lib.hid hc2
    have Hd2 := Lib.hid hd2
    clear hv hv2 h5
    have hw1 : ((n : Int) ≤ t1) := by omega
    have hw2 : ((t1 : Int) + 1 ≤ t2) := by omega
    have hw3 : ((t1 : Int) ≤ t3) := by omega
    clear h1 h2 h3
    have hb := ext_alloc w (.cells #[.int .i64 a, .int .i64 b, .int .i64 c, .int .i64 d] 23)
    have hP := Blk.new w 23 [.int .i64 a, .int .i64 b, .int .i64 c, .int .i64 d]
    go_enter Try.func4, Try.ntmps4
    go_upto_region 1 with fail
    change Blk (w.alloc (.cells #[.int .i64 a, .int .i64 b, .int .i64 c, .int .i64 d] 23)) _ _ _ at hP
    generalize w.alloc (.cells #[.int .i64 a, .int .i64 b, .int .i64 c, .int .i64 d] 23) = W0 at *
    have q0 : W0.cell? ⟨w.heap.size, 0, none⟩ = _ := hP.cell rfl
    have q1 : W0.cell? ⟨w.heap.size, 1, none⟩ = _ := hP.cell rfl
    have q2 : W0.cell? ⟨w.heap.size, 2, none⟩ = _ := hP.cell rfl
    have q3 : W0.cell? ⟨w.heap.size, 3, none⟩ = _ := hP.cell rfl
    go_wp2_with fail
    refine (V.out _).mono ?_; rintro e W1 ⟨rfl, hx⟩
    replace hP := hP.ext hx
    replace hb := ext_trans hb hx
    clear hx
    clear q0 q1 q2 q3
    have q0 : W1.cell? ⟨w.heap.size, 0, none⟩ = _ := hP.cell rfl
    have q1 : W1.cell? ⟨w.heap.size, 1, none⟩ = _ := hP.cell rfl
    have q2 : W1.cell? ⟨w.heap.size, 2, none⟩ = _ := hP.cell rfl
    have q3 : W1.cell? ⟨w.heap.size, 3, none⟩ = _ := hP.cell rfl
    go_wp2_with fail
    refine (rules_any a b c d _).mono ?_; rintro e W2 ⟨rfl, hx⟩
    replace hP := hP.ext hx
    replace hb := ext_trans hb hx
    clear hx
    clear q0 q1 q2 q3
    have q0 : W2.cell? ⟨w.heap.size, 0, none⟩ = _ := hP.cell rfl
    have q1 : W2.cell? ⟨w.heap.size, 1, none⟩ = _ := hP.cell rfl
    have q2 : W2.cell? ⟨w.heap.size, 2, none⟩ = _ := hP.cell rfl
    have q3 : W2.cell? ⟨w.heap.size, 3, none⟩ = _ := hP.cell rfl
    go_wp2_with fail
    refine (T1.out _).mono ?_; rintro e W3 ⟨rfl, hx⟩
    replace hP := hP.ext hx
    replace hb := ext_trans hb hx
    clear hx
    clear q0 q1 q2 q3
    have q0 : W3.cell? ⟨w.heap.size, 0, none⟩ = _ := hP.cell rfl
    have q1 : W3.cell? ⟨w.heap.size, 1, none⟩ = _ := hP.cell rfl
    have q2 : W3.cell? ⟨w.heap.size, 2, none⟩ = _ := hP.cell rfl
    have q3 : W3.cell? ⟨w.heap.size, 3, none⟩ = _ := hP.cell rfl
    go_wp2_with fail
    refine (rules_any a b c d _).mono ?_; rintro e W4 ⟨rfl, hx⟩
    replace hP := hP.ext hx
    replace hb := ext_trans hb hx
    clear hx
    clear q0 q1 q2 q3
    have q0 : W4.cell? ⟨w.heap.size, 0, none⟩ = _ := hP.cell rfl
    have q1 : W4.cell? ⟨w.heap.size, 1, none⟩ = _ := hP.cell rfl
    have q2 : W4.cell? ⟨w.heap.size, 2, none⟩ = _ := hP.cell rfl
    have q3 : W4.cell? ⟨w.heap.size, 3, none⟩ = _ := hP.cell rfl
    go_wp2_with fail
    refine (T2.out _).mono ?_; rintro e W5 ⟨rfl, hx⟩
    replace hP := hP.ext hx
    replace hb := ext_trans hb hx
    clear hx
    clear q0 q1 q2 q3
    have q0 : W5.cell? ⟨w.heap.size, 0, none⟩ = _ := hP.cell rfl
    have q1 : W5.cell? ⟨w.heap.size, 1, none⟩ = _ := hP.cell rfl
    have q2 : W5.cell? ⟨w.heap.size, 2, none⟩ = _ := hP.cell rfl
    have q3 : W5.cell? ⟨w.heap.size, 3, none⟩ = _ := hP.cell rfl
    have hE := Blk.new W5 23 [.int .i64 a, .int .i64 b, .int .i64 c, .int .i64 d]
    have hxE := ext_alloc W5 (.cells #[.int .i64 a, .int .i64 b, .int .i64 c, .int .i64 d] 23)
    go_upto_region 7 with fail
    change Blk (W5.alloc (.cells #[.int .i64 a, .int .i64 b, .int .i64 c, .int .i64 d] 23)) _ _ _ at hE
    generalize W5.alloc (.cells #[.int .i64 a, .int .i64 b, .int .i64 c, .int .i64 d] 23) = W6 at *
    clear q0 q1 q2 q3
    have hwlt := hP.lt
    replace hP := hP.ext hxE
    replace hb := ext_trans hb hxE
    have hElt := hE.lt
    clear hxE
    refine Dr.wp_region_plan 15 [W5.heap.size] (.q [0, 1, 2, 3, 4, 5, 6, 7, 8, 9, 10, 11, 12] (.e1 13 (.q [14] .done))) (by kernel_rfl) (by kernel_rfl) ?_
    replace hP := hP.drew
    replace hE := hE.drew
    replace hb := hb.drew
    generalize World.drew W6 = W7 at *
    have z2 := Dr.cls_cell (M := [W5.heap.size]) (hP.cell (i := 2) rfl) (by simp; omega)
    have z3 := Dr.cls_cell (M := [W5.heap.size]) (hP.cell (i := 3) rfl) (by simp; omega)
    refine Dr.plan_q (l := [_, _, _, _, _, _, _, _, _, _, _, _, _]) rfl (fun K hK => ?_)
    iterate 13 (go_big_quiet_step (fail))
    refine wpQuiet_nil (hK _ ?_); clear hK K
    clear z2 z3
    refine Dr.plan_e rfl (by rfl) (fun K hK => ?_)
    have e2 : W7.cell? ⟨W5.heap.size, 2, none⟩ = _ := hE.cell rfl
    have f2 := hE.free 2
    go_wp2
    refine hK _ _ (Dr.Bel.store (by simp) _) ?_; clear hK K
    have hE1 := hE.set 2 (.int .i64 c2)
    replace hP := hP.other (p := ⟨W5.heap.size, 2, none⟩) (by simp; omega) (.int .i64 c2)
    have hbl := Dr.Bel.store (M := [W5.heap.size]) (w := W7) (p := ⟨W5.heap.size, 2, none⟩) (by simp) (.int .i64 c2)
    have h7 := hb.size
    clear e2 f2 hE
    refine Dr.plan_q (l := [_]) rfl (fun K hK => ?_)
    iterate 1 (go_big_quiet_step (fail))
    refine wpQuiet_nil (hK _ ?_); clear hK K
    refine Dr.plan_done (tl := [_]) rfl ?_
    have e3 : (W7.setCell ⟨W5.heap.size, 2, none⟩ (.int .i64 c2)).cell? ⟨W5.heap.size, 3, none⟩ = _ := hE1.cell (i := 3) rfl
    have f3 := hE1.free 3
    go_upto_region 8 with fail
    clear e3 f3
    have hE2 : Blk ((W7.setCell ⟨W5.heap.size, 2, none⟩ (.int .i64 c2)).setCell ⟨W5.heap.size, 3, none⟩ (.int .i64 d2)) W5.heap.size 23 [.int .i64 a, .int .i64 b, .int .i64 c2, .int .i64 d2] := hE1.set 3 (.int .i64 d2)
    replace hP := hP.other (p := ⟨W5.heap.size, 3, none⟩) (by simp; omega) (.int .i64 d2)
    replace hbl := hbl.put (p := ⟨W5.heap.size, 3, none⟩) (by simp) (.int .i64 d2)
    replace hb := hb.trans (hbl.old h7 (by simp; omega))
    clear hE1 hbl h7
    generalize (W7.setCell ⟨W5.heap.size, 2, none⟩ (.int .i64 c2)).setCell ⟨W5.heap.size, 3, none⟩ (.int .i64 d2) = W8 at *
    have p0 : W8.cell? ⟨W5.heap.size, 0, none⟩ = _ := hE2.cell rfl
    have p1 : W8.cell? ⟨W5.heap.size, 1, none⟩ = _ := hE2.cell rfl
    have p2 : W8.cell? ⟨W5.heap.size, 2, none⟩ = _ := hE2.cell rfl
    have p3 : W8.cell? ⟨W5.heap.size, 3, none⟩ = _ := hE2.cell rfl
    go_wp2_with fail
    refine (rules_any a b c2 d2 _).mono ?_; rintro e W9 ⟨rfl, hx⟩
    replace hP := hP.ext hx
    replace hb := ext_trans hb hx
    clear hx
    clear p0 p1 p2 p3
    go_wp2_with fail
    refine (T3.out _).mono ?_; rintro e W10 ⟨rfl, hx⟩
    replace hP := hP.ext hx
    replace hb := ext_trans hb hx
    clear hx
    have q1 : W10.cell? ⟨w.heap.size, 1, none⟩ = _ := hP.cell rfl
    by_cases hbn : b < (n : Int)
    · go_wp2_with fail
      refine (awake_any _).mono ?_; rintro e W11 ⟨rfl, hx⟩
      replace hb := ext_trans hb hx
      clear hx
      go_wp2
      go_ret
      exact ⟨rfl, hb⟩
    · have e : t1 = n := h4.out.resolve_left hbn
      subst e
      go_wp2_with fail
      refine (awake_any _).mono ?_; rintro e W11 ⟨rfl, hx⟩
      replace hb := ext_trans hb hx
      clear hx
      go_wp2
      go_ret
      exact ⟨rfl, hb⟩
end Go.Proofs.Ytbpmfaibcibleaa

/- Walk: Trip, twice. (Printed by mk_trpa.py.) -/
import Derived.Test.YtbpmfaibcibleaaWaB
import Derived.Test.YtbpmfaibcibleaaTrpP
import Derived.Test.YtbpmfaibcibleaaSorX
namespace Go.Proofs.Ytbpmfaibcibleaa
open Go.RowKit Go.Bs Go.Wg Go.Pl Go.Sort
theorem wr_sm {x : Int} (h : 0 ≤ x) (h2 : x ≤ 1000000) : wrap64 x = x := by unfold wrap64; omega
theorem int_ret {x y : Int} (h : x = y) : Ending.returned (.int .i64 x) = Ending.returned (.int .i64 y) := by rw [h]
theorem int2_ret {x y u v : Int} (h : x = y) (h2 : u = v) : Ending.returned (.tuple #[.int .i64 x, .int .i64 u]) = Ending.returned (.tuple #[.int .i64 y, .int .i64 v]) := by rw [h, h2]
theorem tim_bd (d s b r : Nat) (hd : d ≤ 24) (hb : b ≤ 8) (hr : r ≤ 24) : ∀ m, (tim d s b r m).1 ≤ m * 25 ∧ (tim d s b r m).2 ≤ m
  | 0 => by simp [tim]
  | m + 1 => by
    have ih := tim_bd d s b r hd hb hr m
    show (stp d s b r (tim d s b r m)).1 ≤ _ ∧ (stp d s b r (tim d s b r m)).2 ≤ _
    unfold stp
    split
    · simp only; omega
    · split
      · simp only; omega
      · simp only; omega
/-- the hours of a shift with its breaks -/
theorem shift_any (a b c d x : Int) (_ha : 1 ≤ a ∧ a ≤ 24) (hb : 1 ≤ b ∧ b ≤ a) (hc : 0 ≤ c ∧ c ≤ 8) (hx : 0 ≤ x ∧ x ≤ 24) (w : World) :
    Calls Try.prog 65 #[.agg #[.int .i64 a, .int .i64 b, .int .i64 c, .int .i64 d], .int .i64 x] w fun e w' => e = .returned (.int .i64 ((shf b.toNat c.toNat x.toNat : Nat) : Int)) ∧ Below w.heap.size w w' := by
  have hb0 := ext_alloc w (.cells #[.int .i64 a, .int .i64 b, .int .i64 c, .int .i64 d] 27)
  have hP := Blk.new w 27 [.int .i64 a, .int .i64 b, .int .i64 c, .int .i64 d]
  by_cases h0 : x = 0
  · subst h0
    go_enter Try.func65, Try.ntmps65
    go_wp2
    go_ret
    exact ⟨by rfl, hb0⟩
  · obtain ⟨q, hq, hqb⟩ : ∃ q : Nat, (x - 1).tdiv b = q ∧ q ≤ 24 ∧ q = (x.toNat - 1) / b.toNat := by
      refine ⟨(x.toNat - 1) / b.toNat, ?_, ?_, rfl⟩
      · rw [Int.tdiv_eq_ediv_of_nonneg (by omega), Int.natCast_ediv]
        congr 1
        · omega
        · omega
      · exact Nat.le_trans (Nat.div_le_self _ _) (by omega)
    obtain ⟨m, hm, hmb⟩ : ∃ m : Nat, (q : Int) * c = m ∧ m ≤ 192 ∧ m = q * c.toNat := by
      refine ⟨q * c.toNat, ?_, Nat.le_trans (Nat.mul_le_mul hqb.1 (show c.toNat ≤ 8 by omega)) (by omega), rfl⟩
      rw [Int.natCast_mul]
      congr 1
      omega
    have Hr := Lib.hid (show x + (m : Int) = ((shf b.toNat c.toNat x.toNat : Nat) : Int) by
      unfold shf
      rw [if_neg (by omega), ← hqb.2, ← hmb.2]
      omega)
    have hb0' : b ≠ 0 := by omega
    have hmb1 := hmb.1
    have Hwq := Lib.hid (show wrap64 (q : Int) = q from wr_sm (by omega) (by omega))
    have Hwm := Lib.hid (show wrap64 (m : Int) = m from wr_sm (by omega) (by omega))
    have Hwx := Lib.hid (show wrap64 (x + (m : Int)) = x + m from wr_sm (by omega) (by omega))
    have Hm := Lib.hid hm
    clear hqb hmb hm
    have h0' : decide (x = 0) = false := by simpa using h0
    go_enter Try.func65, Try.ntmps65
    go_upto_region 3 with fail
    change Blk (w.alloc (.cells #[.int .i64 a, .int .i64 b, .int .i64 c, .int .i64 d] 27)) _ _ _ at hP
    generalize w.alloc (.cells #[.int .i64 a, .int .i64 b, .int .i64 c, .int .i64 d] 27) = W0 at *
    refine Dr.wp_region_plan 11 [] (.q [0, 1, 2, 3, 4, 5, 6, 7, 8, 9, 10] .done) (by kernel_rfl) (by kernel_rfl) ?_
    have hP2 := hP.drew
    have hb2 := hb0.drew
    generalize World.drew W0 = W2 at *
    have c1 := Dr.cell0 (hP2.cell (i := 1) rfl)
    have c2 := Dr.cell0 (hP2.cell (i := 2) rfl)
    refine Dr.plan_q (l := [_, _, _, _, _, _, _, _, _, _, _]) rfl (fun K hK => ?_)
    iterate 11 (go_big_quiet_step (fail))
    refine wpQuiet_nil (hK _ ?_); clear hK K
    refine Dr.plan_end rfl ?_
    go_wp2
    go_ret
    exact ⟨int_ret (by rw [Hwq.out, Hm.out, Hwm.out, Hwx.out, Hr.out]), hb2⟩
/-- what Trip answers -/
def tripR (a b c d n : Int) : Int × Int :=
  if !(btw a 1 24 && btw b 1 a && btw c 0 8 && btw d 0 24) then (0, 1)
  else if !btw n 0 200 then (0, 2)
  else (((tim a.toNat b.toNat c.toNat d.toNat n.toNat).1 : Int), 0)
set_option maxHeartbeats 1000000 in
theorem Trip_any (a b c d n : Int) (w : World) :
    Calls Try.prog 17 #[.agg #[.int .i64 a, .int .i64 b, .int .i64 c, .int .i64 d], .int .i64 n] w fun e w' => e = .returned (.tuple #[.int .i64 (tripR a b c d n).1, .int .i64 (tripR a b c d n).2]) ∧ Below w.heap.size w w' := by
  generalize hres : tripR a b c d n = res
  have Hres := Lib.hid hres
  clear hres
  unfold tripR at Hres
  have hb0 := ext_alloc w (.cells #[.int .i64 a, .int .i64 b, .int .i64 c, .int .i64 d] 27)
  have hP := Blk.new w 27 [.int .i64 a, .int .i64 b, .int .i64 c, .int .i64 d]
  have V := Lib.hid (fun W => ruvalid4 a b c d W)
  have I := Lib.hid (fun W => within_any n 0 200 W)
  cases hv : (btw a 1 24 && btw b 1 a && btw c 0 8 && btw d 0 24)
  case false =>
    rw [hv] at Hres V
    have Hr := Lib.hid (show res = (0, 1) by rw [← Hres.out]; rfl)
    go_enter Try.func17, Try.ntmps17
    go_upto_region 1 with fail
    change Blk (w.alloc (.cells #[.int .i64 a, .int .i64 b, .int .i64 c, .int .i64 d] 27)) _ _ _ at hP
    generalize w.alloc (.cells #[.int .i64 a, .int .i64 b, .int .i64 c, .int .i64 d] 27) = W0 at *
    have q0 : W0.cell? ⟨w.heap.size, 0, none⟩ = _ := hP.cell rfl
    have q1 : W0.cell? ⟨w.heap.size, 1, none⟩ = _ := hP.cell rfl
    have q2 : W0.cell? ⟨w.heap.size, 2, none⟩ = _ := hP.cell rfl
    have q3 : W0.cell? ⟨w.heap.size, 3, none⟩ = _ := hP.cell rfl
    go_wp2_with fail
    refine (V.out _).mono ?_; rintro e w1 ⟨rfl, hb1⟩
    go_wp2
    go_ret2
    exact ⟨by rw [Hr.out]; rfl, ext_trans hb0 hb1⟩
  case true =>
    rw [hv] at Hres V
    obtain ⟨ha, hb, hc, hd⟩ : (1 ≤ a ∧ a ≤ 24) ∧ (1 ≤ b ∧ b ≤ a) ∧ (0 ≤ c ∧ c ≤ 8) ∧ 0 ≤ d ∧ d ≤ 24 := by
      simp only [btw, Bool.and_eq_true, decide_eq_true_eq] at hv
      omega
    clear hv
    cases hn : btw n 0 200
    · rw [hn] at Hres I
      have Hr := Lib.hid (show res = (0, 2) by rw [← Hres.out]; rfl)
      go_enter Try.func17, Try.ntmps17
      go_upto_region 1 with fail
      change Blk (w.alloc (.cells #[.int .i64 a, .int .i64 b, .int .i64 c, .int .i64 d] 27)) _ _ _ at hP
      generalize w.alloc (.cells #[.int .i64 a, .int .i64 b, .int .i64 c, .int .i64 d] 27) = W0 at *
      have q0 : W0.cell? ⟨w.heap.size, 0, none⟩ = _ := hP.cell rfl
      have q1 : W0.cell? ⟨w.heap.size, 1, none⟩ = _ := hP.cell rfl
      have q2 : W0.cell? ⟨w.heap.size, 2, none⟩ = _ := hP.cell rfl
      have q3 : W0.cell? ⟨w.heap.size, 3, none⟩ = _ := hP.cell rfl
      go_wp2_with fail
      refine (V.out _).mono ?_; rintro e w1 ⟨rfl, hb1⟩
      clear q0 q1 q2 q3
      go_wp2_with fail
      refine (I.out _).mono ?_; rintro e w2 ⟨rfl, rfl⟩
      go_wp2
      go_ret2
      exact ⟨by rw [Hr.out]; rfl, ext_trans hb0 hb1⟩
    · rw [hn] at Hres I
      have hn2 : 0 ≤ n ∧ n ≤ 200 := by simpa [btw] using hn
      clear hn
      obtain ⟨x, rfl⟩ : ∃ x : Nat, n = x := ⟨n.toNat, by omega⟩
      have hr : res = (((tim a.toNat b.toNat c.toNat d.toNat x).1 : Int), 0) := by rw [← Hres.out]; rfl
      rw [tim_formula (by omega)] at hr
      obtain ⟨f, hf⟩ : ∃ f : Nat, (x - 1) / a.toNat = f := ⟨_, rfl⟩
      rw [hf] at hr
      have Hq := Lib.hid (show max 0 ((x : Int) - 1) / a = (f : Int) by
        rw [← hf, Int.natCast_ediv]
        congr 1 <;> omega)
      have hf200 : f ≤ 200 := by rw [← hf]; exact Nat.le_trans (Nat.div_le_self _ _) (by omega)
      have hfa : f * a.toNat ≤ x - 1 := by rw [← hf]; exact Nat.div_mul_le_self _ _
      have hfb : x - 1 < f * a.toNat + a.toNat := by
        rw [← hf]
        have := Nat.div_add_mod (x - 1) a.toNat
        have h3 := Nat.mod_lt (x - 1) (show 0 < a.toNat by omega)
        rw [Nat.mul_comm] at this
        omega
      obtain ⟨u, hu⟩ : ∃ u : Nat, x - f * a.toNat = u := ⟨_, rfl⟩
      have hu24 : u ≤ 24 := by
        rcases Nat.eq_zero_or_pos x with h | h <;> omega
      have hsb : ∀ h, h ≤ 24 → shf b.toNat c.toNat h ≤ 24 + 24 * 8 := fun h hh => by
        unfold shf
        split
        · omega
        · have := Nat.mul_le_mul (Nat.div_le_self (h - 1) b.toNat) (show c.toNat ≤ 8 by omega)
          have : (h - 1) * 8 ≤ 24 * 8 := Nat.mul_le_mul_right 8 (by omega)
          omega
      have hs1 := hsb a.toNat (by omega)
      have hs2 := hsb u hu24
      rw [hu] at hr
      have S1 := Lib.hid (fun W => shift_any a b c d a ha hb hc ⟨by omega, by omega⟩ W)
      have S2 := Lib.hid (fun W (z : Int) (hz : z = u) => shift_any a b c d z ha hb hc ⟨by omega, by omega⟩ W)
      have S2 := Lib.hid (show ∀ (W : World) (z : Int), z = u → Calls Try.prog 65 #[.agg #[.int .i64 a, .int .i64 b, .int .i64 c, .int .i64 d], .int .i64 z] W fun e w' => e = .returned (.int .i64 ((shf b.toNat c.toNat u : Nat) : Int)) ∧ Below W.heap.size W w' from fun W z hz => by have := S2.out W z hz; subst hz; exact this)
      generalize shf b.toNat c.toNat a.toNat = s1 at *
      generalize shf b.toNat c.toNat u = s2 at *
      have hm1 : (f : Int) * ((s1 : Int) + d) = ((f * (s1 + d.toNat) : Nat) : Int) := by
        rw [Int.natCast_mul]
        congr 1
        omega
      have hm1b : f * (s1 + d.toNat) ≤ 200 * 240 := Nat.mul_le_mul hf200 (by omega)
      have hm2 : (f : Int) * a = ((f * a.toNat : Nat) : Int) := by
        rw [Int.natCast_mul]
        congr 1
        omega
      have hu2 : (x : Int) - ((f * a.toNat : Nat) : Int) = (u : Int) := by omega
      obtain ⟨m1, hm1e⟩ : ∃ m : Nat, f * (s1 + d.toNat) = m := ⟨_, rfl⟩
      obtain ⟨m2, hm2e⟩ : ∃ m : Nat, f * a.toNat = m := ⟨_, rfl⟩
      rw [hm1e] at hm1 hm1b hr
      rw [hm2e] at hm2 hu2 hfa
      have Hr := Lib.hid (show res = ((m1 : Int) + s2, 0) by rw [hr, Int.natCast_add])
      have hx2 : x ≤ 200 := by omega
      have hm2b : m2 ≤ 200 := by omega
      have ha0 : a ≠ 0 := by omega
      have Hw1 := Lib.hid (show wrap64 (f : Int) = f from wr_sm (by omega) (by omega))
      have Hw2 := Lib.hid (show wrap64 (m1 : Int) = m1 from wr_sm (by omega) (by omega))
      have Hw3 := Lib.hid (show wrap64 (m2 : Int) = m2 from wr_sm (by omega) (by omega))
      have Hw4 := Lib.hid (show wrap64 ((m1 : Int) + s2) = m1 + s2 from wr_sm (by omega) (by omega))
      have Hm1 := Lib.hid hm1
      have Hm2 := Lib.hid hm2
      have Hu2 := Lib.hid hu2
      clear hm1 hm2 hu2 hr hf hu hsb hm1e hm2e hfb hn2 Hres
      have Hw5 := Lib.hid (show wrap64 ((x : Int) - (m2 : Int)) = u by rw [wr_sm (by omega) (by omega)]; exact Hu2.out)
      go_enter Try.func17, Try.ntmps17
      go_upto_region 1 with fail
      change Blk (w.alloc (.cells #[.int .i64 a, .int .i64 b, .int .i64 c, .int .i64 d] 27)) _ _ _ at hP
      generalize w.alloc (.cells #[.int .i64 a, .int .i64 b, .int .i64 c, .int .i64 d] 27) = W0 at *
      have q0 : W0.cell? ⟨w.heap.size, 0, none⟩ = _ := hP.cell rfl
      have q1 : W0.cell? ⟨w.heap.size, 1, none⟩ = _ := hP.cell rfl
      have q2 : W0.cell? ⟨w.heap.size, 2, none⟩ = _ := hP.cell rfl
      have q3 : W0.cell? ⟨w.heap.size, 3, none⟩ = _ := hP.cell rfl
      go_wp2_with fail
      refine (V.out _).mono ?_; rintro e w1 ⟨rfl, hb1⟩
      clear q0 q1 q2 q3
      have hP1 := hP.ext hb1
      have hb2 := ext_trans hb0 hb1
      clear hP hb0 hb1 V
      go_wp2_with fail
      refine (I.out _).mono ?_; rintro e w2 ⟨rfl, rfl⟩
      clear I
      have q0 : w1.cell? ⟨w.heap.size, 0, none⟩ = _ := hP1.cell rfl
      go_upto_region 6 with fail
      clear q0
      refine Dr.wp_region_plan 20 [] (.q [0, 1, 2, 3, 5, 6, 9, 10, 11, 12, 13, 14, 15] (.e1 4 (.q [7, 8] (.e1 16 (.q [17, 18, 19] .done))))) (by kernel_rfl) (by kernel_rfl) ?_
      have hP2 := hP1.drew
      have hb3 := hb2.drew
      clear hP1 hb2
      generalize World.drew w1 = W2 at *
      have q0 := Dr.cell0 (hP2.cell (i := 0) rfl)
      have q1 := Dr.cell0 (hP2.cell (i := 1) rfl)
      have q2 := Dr.cell0 (hP2.cell (i := 2) rfl)
      have q3 := Dr.cell0 (hP2.cell (i := 3) rfl)
      refine Dr.plan_q (l := [_, _, _, _, _, _, _, _, _, _, _, _, _]) rfl (fun K hK => ?_)
      iterate 13 (go_big_quiet_step (fail))
      refine wpQuiet_nil (hK _ ?_); clear hK K
      clear q0 q1 q2 q3
      refine Dr.plan_e rfl (by rfl) (fun K hK => ?_)
      go_wp2_with (refine (S1.out _).mono ?_; rintro e w3 ⟨rfl, hb4⟩)
      refine hK _ _ (.of hb4) ?_; clear hK K
      refine Dr.plan_q (l := [_, _]) rfl (fun K hK => ?_)
      iterate 2 (go_big_quiet_step (fail))
      refine wpQuiet_nil (hK _ ?_); clear hK K
      refine Dr.plan_e rfl (by rfl) (fun K hK => ?_)
      go_wp2_with (refine (S2.out _ _ (by rw [Hq.out, Hm2.out, Hw3.out, Hw5.out])).mono ?_; rintro e w4 ⟨rfl, hb5⟩)
      refine hK _ _ (.of hb5) ?_; clear hK K
      refine Dr.plan_q (l := [_, _, _]) rfl (fun K hK => ?_)
      iterate 3 (go_big_quiet_step (fail))
      refine wpQuiet_nil (hK _ ?_); clear hK K
      refine Dr.plan_end rfl ?_
      go_wp2
      go_ret2
      exact ⟨int2_ret (by rw [Hq.out, Hm1.out, Hw2.out, Hw4.out, Hr.out]) (by rw [Hr.out]), ext_trans (ext_trans hb3 hb4) hb5⟩
/-- the rules of the reference, as the program's -/
theorem rules_any (a b c d : Int) (w : World) :
    Calls Try.prog 18 #[.agg #[.int .i64 a, .int .i64 b, .int .i64 c, .int .i64 d]] w fun e w' => e = .returned (.agg #[.int .i64 a, .int .i64 b, .int .i64 c, .int .i64 d]) ∧ Below w.heap.size w w' := by
  have hP := Blk.new w 23 [.int .i64 a, .int .i64 b, .int .i64 c, .int .i64 d]
  have hP0 := hP.alloc (.cells #[.int .i64 0, .int .i64 0, .int .i64 0, .int .i64 0] 27)
  have hQ := Blk.new (w.alloc (.cells #[.int .i64 a, .int .i64 b, .int .i64 c, .int .i64 d] 23)) 27 [.int .i64 0, .int .i64 0, .int .i64 0, .int .i64 0]
  have hb0 := (ext_alloc w (.cells #[.int .i64 a, .int .i64 b, .int .i64 c, .int .i64 d] 23)).alloc (by rw [World.size_alloc]; omega) (.cells #[.int .i64 0, .int .i64 0, .int .i64 0, .int .i64 0] 27)
  go_enter Try.func18, Try.ntmps18
  go_upto_region 1 with fail
  rw [World.size_alloc] at hQ
  change Blk ((w.alloc (.cells #[.int .i64 a, .int .i64 b, .int .i64 c, .int .i64 d] 23)).alloc (.cells #[.int .i64 0, .int .i64 0, .int .i64 0, .int .i64 0] 27)) _ _ _ at hQ
  change Blk ((w.alloc (.cells #[.int .i64 a, .int .i64 b, .int .i64 c, .int .i64 d] 23)).alloc (.cells #[.int .i64 0, .int .i64 0, .int .i64 0, .int .i64 0] 27)) _ _ _ at hP0
  generalize (w.alloc (.cells #[.int .i64 a, .int .i64 b, .int .i64 c, .int .i64 d] 23)).alloc (.cells #[.int .i64 0, .int .i64 0, .int .i64 0, .int .i64 0] 27) = W0 at *
  have q0 : W0.cell? ⟨w.heap.size, 0, none⟩ = _ := hP0.cell rfl
  have q1 : W0.cell? ⟨w.heap.size, 1, none⟩ = _ := hP0.cell rfl
  have q2 : W0.cell? ⟨w.heap.size, 2, none⟩ = _ := hP0.cell rfl
  have q3 : W0.cell? ⟨w.heap.size, 3, none⟩ = _ := hP0.cell rfl
  have p0 : W0.cell? ⟨w.heap.size + 1, 0, none⟩ = _ := hQ.cell rfl
  have p1 : W0.cell? ⟨w.heap.size + 1, 1, none⟩ = _ := hQ.cell rfl
  have p2 : W0.cell? ⟨w.heap.size + 1, 2, none⟩ = _ := hQ.cell rfl
  have p3 : W0.cell? ⟨w.heap.size + 1, 3, none⟩ = _ := hQ.cell rfl
  have f0 := hQ.free 0
  have f1 := hQ.free 1
  have f2 := hQ.free 2
  have f3 := hQ.free 3
  go_wp2
  have hQ4 : Blk ((((W0.setCell ⟨w.heap.size + 1, 0, none⟩ (.int .i64 a)).setCell ⟨w.heap.size + 1, 1, none⟩ (.int .i64 b)).setCell ⟨w.heap.size + 1, 2, none⟩ (.int .i64 c)).setCell ⟨w.heap.size + 1, 3, none⟩ (.int .i64 d)) _ 27 [.int .i64 a, .int .i64 b, .int .i64 c, .int .i64 d] := (((hQ.set 0 _).set 1 _).set 2 _).set 3 _
  have hbl : Dr.Bel [w.heap.size + 1] W0 ((((W0.setCell ⟨w.heap.size + 1, 0, none⟩ (.int .i64 a)).setCell ⟨w.heap.size + 1, 1, none⟩ (.int .i64 b)).setCell ⟨w.heap.size + 1, 2, none⟩ (.int .i64 c)).setCell ⟨w.heap.size + 1, 3, none⟩ (.int .i64 d)) := ((((Dr.Bel.refl _ _).put (by simp) _).put (by simp) _).put (by simp) _).put (by simp) _
  generalize (((W0.setCell ⟨w.heap.size + 1, 0, none⟩ (.int .i64 a)).setCell ⟨w.heap.size + 1, 1, none⟩ (.int .i64 b)).setCell ⟨w.heap.size + 1, 2, none⟩ (.int .i64 c)).setCell ⟨w.heap.size + 1, 3, none⟩ (.int .i64 d) = W4 at *
  have k0 : W4.cell? ⟨w.heap.size + 1, 0, none⟩ = _ := hQ4.cell rfl
  have k1 : W4.cell? ⟨w.heap.size + 1, 1, none⟩ = _ := hQ4.cell rfl
  have k2 : W4.cell? ⟨w.heap.size + 1, 2, none⟩ = _ := hQ4.cell rfl
  have k3 : W4.cell? ⟨w.heap.size + 1, 3, none⟩ = _ := hQ4.cell rfl
  refine bodyPost_ret (v := .agg #[.int .i64 a, .int .i64 b, .int .i64 c, .int .i64 d]) (by simp [results, Try.results18, go_sem, k0, k1, k2, k3]) rfl ?_
  exact ⟨rfl, hb0.trans (hbl.old hb0.size (by simp))⟩
/-- the reference's trip, hour by hour -/
theorem TripR_any (a b c d n : Int) (ha : 1 ≤ a ∧ a ≤ 24) (hb : 1 ≤ b ∧ b ≤ a) (hc : 0 ≤ c ∧ c ≤ 8) (hd : 0 ≤ d ∧ d ≤ 24) (hn : 0 ≤ n ∧ n ≤ 200) (w : World) :
    Calls Try.prog 22 #[.agg #[.int .i64 a, .int .i64 b, .int .i64 c, .int .i64 d], .int .i64 n] w fun e w' => e = .returned (.int .i64 ((tim a.toNat b.toNat c.toNat d.toNat n.toNat).1 : Int)) ∧ Below w.heap.size w w' := by
  obtain ⟨x, rfl⟩ : ∃ x : Nat, n = x := ⟨n.toNat, by omega⟩
  rw [Int.toNat_natCast]
  have hx200 : x ≤ 200 := by omega
  have hb0 := ext_alloc w (.cells #[.int .i64 a, .int .i64 b, .int .i64 c, .int .i64 d] 23)
  have hP := Blk.new w 23 [.int .i64 a, .int .i64 b, .int .i64 c, .int .i64 d]
  have hb00 : b ≠ 0 := by omega
  generalize hres : (tim a.toNat b.toNat c.toNat d.toNat x).1 = res
  have Hres := Lib.hid hres
  clear hres
  have Hbd := Lib.hid (tim_bd a.toNat b.toNat c.toNat d.toNat (by omega) (by omega) (by omega))
  go_enter Try.func22, Try.ntmps22
  go_upto_region 1 with fail
  change Blk (w.alloc (.cells #[.int .i64 a, .int .i64 b, .int .i64 c, .int .i64 d] 23)) _ _ _ at hP
  generalize w.alloc (.cells #[.int .i64 a, .int .i64 b, .int .i64 c, .int .i64 d] 23) = W0 at *
  have q0 : W0.cell? ⟨w.heap.size, 0, none⟩ = _ := hP.cell rfl
  have q1 : W0.cell? ⟨w.heap.size, 1, none⟩ = _ := hP.cell rfl
  have q2 : W0.cell? ⟨w.heap.size, 2, none⟩ = _ := hP.cell rfl
  have q3 : W0.cell? ⟨w.heap.size, 3, none⟩ = _ := hP.cell rfl
  go_wp2
  go_loop [5, 6, 7] (fun s t k => ∃ m : Nat, k = .int .i64 m ∧ m ≤ x ∧ s = .int .i64 ((tim a.toNat b.toNat c.toNat d.toNat m).1 : Int) ∧ t = .int .i64 ((tim a.toNat b.toNat c.toNat d.toNat m).2 : Int)) (fun _ _ k => x - (intOf k).toNat)
  case atStart => exact ⟨0, rfl, by omega, rfl, rfl⟩
  case round =>
    obtain ⟨m, rfl, hm, rfl, rfl⟩ := hrel
    have hst := Lib.hid (show tim a.toNat b.toNat c.toNat d.toNat (m + 1) = stp a.toNat b.toNat c.toNat d.toNat (tim a.toNat b.toNat c.toNat d.toNat m) from rfl)
    obtain ⟨hbd1, hbd2⟩ := Hbd.out m
    by_cases hlt : m < x
    · generalize tim a.toNat b.toNat c.toNat d.toNat m = p at *
      obtain ⟨s, t⟩ := p
      simp only at hbd1 hbd2
      have hlt' : (m : Int) < (x : Int) := by omega
      have hs1 : s ≤ 20000 := Nat.le_trans hbd1 (by omega)
      clear hbd1
      unfold stp at hst
      simp only at hst
      by_cases hta : (t : Int) = a
      · have hp2 := Lib.hid (show tim a.toNat b.toNat c.toNat d.toNat (m + 1) = (s + d.toNat + 1, 1) by rw [hst.out, if_pos (by omega)])
        have hta' : decide ((t : Int) = a) = true := by simpa using hta
        clear hst
        go_wp2
        go_round
        case rel => exact ⟨m + 1, by go_num, by omega, by rw [hp2.out]; go_num, by rw [hp2.out]; go_num⟩
        case measure => simp [intOf]; omega
      · have hta' : decide ((t : Int) = a) = false := by simpa using hta
        have hna : ¬ t = a.toNat := by omega
        obtain ⟨r, hr, hrm⟩ : ∃ r : Nat, (t : Int).tmod b = r ∧ r = t % b.toNat := by
          refine ⟨t % b.toNat, ?_, rfl⟩
          rw [Int.tmod_eq_emod_of_nonneg (by omega), Int.natCast_emod]
          congr 1
          omega
        have hr2 : (t : Int) % b = r := by rw [← Int.tmod_eq_emod_of_nonneg (by omega)]; exact hr
        by_cases ht0 : 0 < t
        · have ht0' : (0 : Int) < t := by omega
          by_cases hr0 : r = 0
          · have hp2 := Lib.hid (show tim a.toNat b.toNat c.toNat d.toNat (m + 1) = (s + c.toNat + 1, t + 1) by rw [hst.out, if_neg hna, if_pos ⟨ht0, by omega⟩])
            subst hr0
            clear hst hrm hna
            go_wp2
            go_round
            case rel => exact ⟨m + 1, by go_num, by omega, by rw [hp2.out]; go_num, by rw [hp2.out]; go_num⟩
            case measure => simp [intOf]; omega
          · have hp2 := Lib.hid (show tim a.toNat b.toNat c.toNat d.toNat (m + 1) = (s + 1, t + 1) by rw [hst.out, if_neg hna, if_neg (fun h => hr0 (by omega))])
            clear hst hrm hna
            go_wp2
            go_round
            case rel => exact ⟨m + 1, by go_num, by omega, by rw [hp2.out]; go_num, by rw [hp2.out]; go_num⟩
            case measure => simp [intOf]; omega
        · have ht0' : ¬ (0 : Int) < t := by omega
          have hp2 := Lib.hid (show tim a.toNat b.toNat c.toNat d.toNat (m + 1) = (s + 1, t + 1) by rw [hst.out, if_neg hna, if_neg (fun h => ht0 h.1)])
          clear hst hrm hna hr hr2
          go_wp2
          go_round
          case rel => exact ⟨m + 1, by go_num, by omega, by rw [hp2.out]; go_num, by rw [hp2.out]; go_num⟩
          case measure => simp [intOf]; omega
    · obtain rfl : m = x := by omega
      go_wp2
      go_ret
      exact ⟨int_ret (by rw [Hres.out]), hb0⟩
end Go.Proofs.Ytbpmfaibcibleaa

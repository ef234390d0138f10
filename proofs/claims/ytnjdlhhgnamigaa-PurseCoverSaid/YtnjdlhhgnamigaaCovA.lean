/- The law of cover: what a policy pays of some losses, and what a wider one pays. -/
import Derived.Test.YtnjdlhhgnamigaaClmP
import Derived.Test.YtnjdlhhgnamigaaClmC
namespace Go.Proofs.Ytnjdlhhgnamigaa
open Go.RowKit Go.Bs Go.Pu Go.Pl Go.Sort

theorem claims_ok (p : Pol) (A : Option Addr) (n c : Nat) (l : List Int) (w : World) (hn : l.length = n) (hm : n ≤ 50) (hd : Cells w A 1 encI l) (hok : p.okB = true) (hl : lossB l = true) :
    Calls Try.prog 22 #[Pol.val p, .slice A n c] w fun e w' => ∃ A' c', e = .returned (.tuple #[.slice A' n c', .int .i64 0]) ∧ Cells w' A' 1 encI (p.pays p.most l) ∧ Below w.heap.size w w' := by
  have h := Claims_any p A n c l w hn (by omega) hd
  rw [show claimsR p l = (p.pays p.most l, 0) by simp [claimsR, hok, hl, show ¬ 50 < l.length by omega]] at h
  refine h.mono ?_
  rintro e W ⟨v, rfl, ⟨A', c', rfl, -, -, f, -⟩, hb⟩
  rw [pays_len, hn]
  exact ⟨A', c', rfl, f, hb⟩

set_option maxRecDepth 100000 in
set_option maxHeartbeats 4000000 in
theorem cover_law (p : Pol) (A : Option Addr) (n c : Nat) (l : List Int) (x y : Int) (w : World) (hn : l.length = n) (hd : Cells w A 1 encI l) (hx : 0 ≤ x ∧ x ≤ 4294967295) (hy : 0 ≤ y ∧ y ≤ 4294967295) :
    Calls Try.prog 8 #[Pol.val p, .slice A n c, .int .u32 x, .int .u32 y] w fun e w' => e = .returned (.bool true) ∧ Below w.heap.size w w' := by
  have hb0 := ext_alloc w (.cells #[.int .i64 p.least, .int .i64 p.part, .int .i64 p.most] 43)
  have hB0 := Blk.new w 43 [.int .i64 p.least, .int .i64 p.part, .int .i64 p.most]
  have hd0 := hd.ext hb0
  have CR := Lib.hid (fun W => RightPolicy_any p W)
  have CL := Lib.hid (fun W h1 hd => Losses_any A n c l W hn h1 hd)
  have CP := Lib.hid (fun W => Policy_any p W)
  have CI := Lib.hid (fun W h hd => list_any A n c l W hn h hd)
  have CC := Lib.hid (fun B c W h hd hok hl => claims_ok p B n c l W hn h hd hok hl)
  have CD := Lib.hid (fun B c W h hd hok hl => claims_ok (p.wider x y) B n c l W hn h hd hok hl)
  have Hn := Lib.hid hn
  clear hn hd
  unfold Pol.val at *
  go_enter Try.func8, Try.ntmps8
  go_upto_region 1 with fail
  change Blk (w.alloc (.cells #[.int .i64 p.least, .int .i64 p.part, .int .i64 p.most] 43)) _ _ _ at hB0
  generalize w.alloc (.cells #[.int .i64 p.least, .int .i64 p.part, .int .i64 p.most] 43) = W0 at *
  have b0 : W0.cell? ⟨w.heap.size, 0, none⟩ = _ := hB0.cell (i := 0) rfl
  have b1 : W0.cell? ⟨w.heap.size, 1, none⟩ = _ := hB0.cell (i := 1) rfl
  have b2 : W0.cell? ⟨w.heap.size, 2, none⟩ = _ := hB0.cell (i := 2) rfl
  go_wp2_with fail
  refine (CR.out _).mono ?_; rintro e W1 ⟨rfl, hb1⟩
  have hbw1 := ext_trans hb0 hb1
  have hB1 := hB0.ext hb1
  have hd1 := hd0.ext hb1
  clear hb0 hb1 hB0 hd0 CR b0 b1 b2
  cases hok : p.okB
  · go_wp2_with fail
    refine (awake_any _).mono ?_; rintro e wz ⟨rfl, hbz⟩
    go_wp2
    go_ret
    exact ⟨rfl, ext_trans hbw1 hbz⟩
  by_cases h50 : 50 < n
  · have h50' : (50 : Int) < n := by omega
    go_wp2_with fail
    refine (awake_any _).mono ?_; rintro e wz ⟨rfl, hbz⟩
    go_wp2
    go_ret
    exact ⟨rfl, ext_trans hbw1 hbz⟩
  have h50' : ¬ (50 : Int) < n := by omega
  go_wp2_with fail
  refine (CL.out _ (by omega) hd1).mono ?_; rintro e W2 ⟨rfl, hb2⟩
  have hbw2 := ext_trans hbw1 hb2
  have hB2 := hB1.ext hb2
  have hd2 := hd1.ext hb2
  clear hbw1 hb2 hB1 hd1 CL
  cases hlo : lossB l
  · go_wp2_with fail
    refine (awake_any _).mono ?_; rintro e wz ⟨rfl, hbz⟩
    go_wp2
    go_ret
    exact ⟨rfl, ext_trans hbw2 hbz⟩
  have hp := (Pol.okB_iff p).1 hok
  have hL := (lossB_iff l).1 hlo
  have Hcov := Lib.hid (fun k => hp.cover hx.1 hy.1 hL k)
  have Hea := Lib.hid (fun i hi => pays_each p l p.most hp.mo.1 (fun n hn => hp.due (hL n hn).1) i hi)
  have hpw : (p.wider x y).okB = true := (Pol.okB_iff _).2 (hp.wider hx.1 hy.1)
  have CC1 := Lib.hid (fun B c W hd => CC.out B c W (by omega) hd hok hlo)
  have CD1 := Lib.hid (fun B c W hd => CD.out B c W (by omega) hd hpw hlo)
  obtain ⟨-, ps, hps⟩ : True ∧ ∃ ps, ps = p.pays p.most l := ⟨trivial, _, rfl⟩
  obtain ⟨-, qs, hqs⟩ : True ∧ ∃ qs, qs = (p.wider x y).pays (p.wider x y).most l := ⟨trivial, _, rfl⟩
  have hp1 : ps.length = n := by rw [hps, pays_len]; exact Hn.out
  have hq1 : qs.length = n := by rw [hqs, pays_len]; exact Hn.out
  rw [← hps] at Hcov Hea CC1
  rw [← hqs] at CD1 Hcov
  have Hp1 := Lib.hid hp1
  have Hq1 := Lib.hid hq1
  have hbd1 := hp.le
  have hbd2 := hp.mo
  clear hp1 hq1 hps hqs CC CD hpw hok hlo hp hL
  have e1 : (p.wider x y).least = max 0 (p.least - y) := rfl
  have e2 : (p.wider x y).part = p.part := rfl
  have e3 : (p.wider x y).most = min 1000000000000 (p.most + x) := rfl
  rw [e1, e2, e3] at CD1
  clear e1 e2 e3
  have b0 : W2.cell? ⟨w.heap.size, 0, none⟩ = _ := hB2.cell (i := 0) rfl
  have b1 : W2.cell? ⟨w.heap.size, 1, none⟩ = _ := hB2.cell (i := 1) rfl
  have b2 : W2.cell? ⟨w.heap.size, 2, none⟩ = _ := hB2.cell (i := 2) rfl
  go_wp2_with fail
  refine (CP.out _).mono ?_; rintro e W3 ⟨rfl, hb3⟩
  have hbw3 := ext_trans hbw2 hb3
  have hB3 := hB2.ext hb3
  have hd3 := hd2.ext hb3
  clear hbw2 hb3 hB2 hd2 b0 b1 b2
  go_wp2_with fail
  refine (CI.out _ (by omega) hd3).mono ?_; rintro e W4 ⟨v4, rfl, ⟨A4, c4, rfl, -, -, f4, -⟩, hb4⟩
  have hbw4 := ext_trans hbw3 hb4
  have hB4 := hB3.ext hb4
  have hd4 := hd3.ext hb4
  clear hbw3 hb4 hB3 hd3
  rw [Hn.out]
  go_wp2_with fail
  refine (CC1.out _ _ _ f4).mono ?_; rintro e W5 ⟨A5, c5, rfl, f5, hb5⟩
  have hbw5 := ext_trans hbw4 hb5
  have hB5 := hB4.ext hb5
  have hd5 := hd4.ext hb5
  clear hbw4 hb5 hB4 hd4 f4 CC1
  have b0 : W5.cell? ⟨w.heap.size, 0, none⟩ = _ := hB5.cell (i := 0) rfl
  have b1 : W5.cell? ⟨w.heap.size, 1, none⟩ = _ := hB5.cell (i := 1) rfl
  have b2 : W5.cell? ⟨w.heap.size, 2, none⟩ = _ := hB5.cell (i := 2) rfl
  go_wp2_with fail
  refine (CP.out _).mono ?_; rintro e W6 ⟨rfl, hb6⟩
  have hbw6 := ext_trans hbw5 hb6
  have hB6 := hB5.ext hb6
  have hd6 := hd5.ext hb6
  have f6 := f5.ext hb6
  clear hbw5 hb6 hB5 hd5 f5 b0 b1 b2 CP
  go_upto_region 7 with fail
  rw [show (if y < p.least then p.least - y else 0) = max 0 (p.least - y) by split <;> omega, show (if p.most + x < 1000000000000 then p.most + x else 1000000000000) = min 1000000000000 (p.most + x) by split <;> omega]
  generalize max 0 (p.least - y) = l2 at *
  generalize min 1000000000000 (p.most + x) = m2 at *
  have hQ := Blk.new W6 46 [.int .i64 l2, .int .i64 p.part, .int .i64 m2]
  have hAl := ext_alloc W6 (.cells #[.int .i64 l2, .int .i64 p.part, .int .i64 m2] 46)
  have hbw7 := ext_trans hbw6 hAl
  have hB7 := hB6.ext hAl
  have hd7 := hd6.ext hAl
  have f7 := f6.ext hAl
  clear hbw6 hB6 hd6 f6 hAl
  change Blk (W6.alloc (.cells #[.int .i64 l2, .int .i64 p.part, .int .i64 m2] 46)) _ _ _ at hQ
  generalize W6.heap.size = Q at *
  generalize W6.alloc (.cells #[.int .i64 l2, .int .i64 p.part, .int .i64 m2] 46) = W7 at *
  refine Dr.wp_region_plan 9 [] (.q [0, 1] (.e1 2 (.e1 3 (.q [4, 5, 6, 7, 8] .done)))) (by kernel_rfl) (by kernel_rfl) ?_
  have hdr : Below W7.heap.size W7 W7.drew := (Below.refl _ _).drew
  have hbw8 := ext_trans hbw7 hdr
  have hB8 := hB7.ext hdr
  have hd8 := hd7.ext hdr
  have f8 := f7.ext hdr
  have hQ8 := hQ.ext hdr
  clear hbw7 hB7 hd7 f7 hQ hdr
  generalize World.drew _ = W8 at *
  have q0 := Dr.cell0 (hQ8.cell (i := 0) rfl)
  have q1 := Dr.cell0 (hQ8.cell (i := 1) rfl)
  have q2 := Dr.cell0 (hQ8.cell (i := 2) rfl)
  refine Dr.plan_q (l := [_, _]) rfl (fun K hK => ?_)
  iterate 2 (go_big_quiet_step (fail))
  refine wpQuiet_nil (hK _ ?_); clear hK K
  refine Dr.plan_e rfl (by rfl) (fun K hK => ?_)
  go_wp2_with fail
  refine (CI.out _ (by omega) hd8).mono ?_; rintro e W9 ⟨v9, rfl, ⟨A9, c9, rfl, -, -, f9, -⟩, hb9⟩
  rw [Hn.out]
  have hbw9 := ext_trans hbw8 hb9
  have hB9 := hB8.ext hb9
  have hd9 := hd8.ext hb9
  have fp9 := f8.ext hb9
  go_wp2
  refine hK _ _ (.of hb9) ?_; clear hK K
  clear hbw8 hB8 hd8 f8 hQ8 hb9 q0 q1 q2 CI
  refine Dr.plan_e rfl (by rfl) (fun K hK => ?_)
  go_wp2_with fail
  refine (CD1.out _ _ _ f9).mono ?_; rintro e WA ⟨AA, cA, rfl, fA, hbA⟩
  have hbwA := ext_trans hbw9 hbA
  have hBA := hB9.ext hbA
  have hdA := hd9.ext hbA
  have fpA := fp9.ext hbA
  go_wp2
  refine hK _ _ (.of hbA) ?_; clear hK K
  clear hbw9 hB9 hd9 fp9 hbA CD1 f9
  refine Dr.plan_q (l := [_, _, _, _, _]) rfl (fun K hK => ?_)
  iterate 5 (go_big_quiet_step (fail))
  refine wpQuiet_nil (hK _ ?_); clear hK K
  refine Dr.plan_end rfl ?_
  go_wp2
  go_loopw [14, 15, 16] (fun a b i wr => ∃ (k : Nat) (o t : Int), a = .int .i64 o ∧ b = .int .i64 t ∧ i = .int .i64 k ∧ k ≤ n ∧ Hid (o = isum (ps.take k)) ∧ Hid (t = isum (qs.take k)) ∧ Below WA.heap.size WA wr) (fun _ _ i _ => n - (intOf i).toNat)
  case atStart => exact ⟨0, 0, 0, rfl, rfl, rfl, by omega, Lib.hid (by simp [isum]), Lib.hid (by simp [isum]), Below.refl _ _⟩
  case round =>
    obtain ⟨k, o, t, rfl, rfl, rfl, hk, Ho, Ht, hb⟩ := hrel
    by_cases hlt : k < n
    · have hlt' : (k : Int) < n := by omega
      have k1 : k < l.length := by rw [Hn.out]; exact hlt
      have k2 : k < ps.length := by rw [Hp1.out]; exact hlt
      have k3 : k < qs.length := by rw [Hq1.out]; exact hlt
      have e0 := Hcov.out k
      have e1 := Hcov.out (k + 1)
      have e2 := Hea.out k k1
      have e3 : isum (ps.take (k + 1)) = isum (ps.take k) + ps[k] := by rw [List.take_succ_eq_append_getElem k2, isum_append]; simp [isum]
      have e4 : isum (qs.take (k + 1)) = isum (qs.take k) + qs[k] := by rw [List.take_succ_eq_append_getElem k3, isum_append]; simp [isum]
      rw [List.getD_eq_getElem?_getD, List.getElem?_eq_getElem k2, List.getD_eq_getElem?_getD, List.getElem?_eq_getElem k1] at e2
      simp only [Option.getD_some] at e2
      rw [e3, e4, ← Ho.out, ← Ht.out] at e1
      rw [← Ho.out, ← Ht.out] at e0
      have Ho2 := Lib.hid (show o + ps[k] = isum (ps.take (k + 1)) by rw [e3, ← Ho.out])
      have Ht2 := Lib.hid (show t + qs[k] = isum (qs.take (k + 1)) by rw [e4, ← Ht.out])
      clear e3 e4 Ho Ht
      go_upto_region 14 with fail
      refine Dr.wp_region_plan 14 [] (.q [0, 1, 2, 3, 4, 5, 6, 7, 8, 9, 10, 11, 12, 13] .done) (by kernel_rfl) (by kernel_rfl) ?_
      have hb2 := hb.drew
      clear hb
      generalize World.drew _ = V at *
      obtain ⟨o1, p1, rfl, -, d1⟩ := (hdA.ext hb2).at1 k1 rfl
      obtain ⟨o2, p2, rfl, -, d2⟩ := (fpA.ext hb2).at1 k2 rfl
      obtain ⟨o3, p3, rfl, -, d3⟩ := (fA.ext hb2).at1 k3 rfl
      generalize l[k] = x1 at *
      generalize ps[k] = x2 at *
      generalize qs[k] = x3 at *
      have u2 := Dr.cell0 d2
      have u3 := Dr.cell0 d3
      refine Dr.plan_q (l := [_, _, _, _, _, _, _, _, _, _, _, _, _, _]) rfl (fun K hK => ?_)
      iterate 14 (go_big_quiet_step (fail))
      refine wpQuiet_nil (hK _ ?_); clear hK K
      refine Dr.plan_end rfl ?_
      clear u2 u3
      go_upto_region 15 with fail
      refine Dr.wp_region_plan 27 [] (.q [0, 1, 2, 3, 4, 5, 6, 7, 8, 9, 10, 11, 12, 13, 14, 15, 16, 17, 18, 19, 20, 21, 22, 23, 24, 25, 26] .done) (by kernel_rfl) (by kernel_rfl) ?_
      have hb3 := hb2.drew
      have d4 : (World.drew V).cell? ⟨o1, p1 + k, none⟩ = some (.int .i64 x1) := d1
      have d5 : (World.drew V).cell? ⟨o2, p2 + k, none⟩ = some (.int .i64 x2) := d2
      have m0 := Dr.cell0 ((hBA.ext hb3).cell (i := 2) rfl)
      clear d1 d2 d3
      generalize World.drew _ = V2 at *
      have g1 : ¬ x2 < 0 := by omega
      have g2 : ¬ x1 < x2 := by omega
      have g3 : ¬ p.most < o + x2 := by omega
      have g4 : ¬ t + x3 < o + x2 := by omega
      have u1 := Dr.cell0 d4
      have u2 := Dr.cell0 d5
      refine Dr.plan_q (l := [_, _, _, _, _, _, _, _, _, _, _, _, _, _, _, _, _, _, _, _, _, _, _, _, _, _, _]) rfl (fun K hK => ?_)
      iterate 27 (go_big_quiet_step (fail))
      refine wpQuiet_nil (hK _ ?_); clear hK K
      refine Dr.plan_end rfl ?_
      clear u1 u2 m0
      go_wp2
      go_roundw
      case rel => exact ⟨k + 1, _, _, rfl, rfl, by go_num, by omega, Ho2, Ht2, hb3⟩
      case measure => simp [intOf]; omega
    · obtain rfl : k = n := by omega
      go_wp2_with fail
      refine (awake_any _).mono ?_; rintro e wz ⟨rfl, hbz⟩
      go_wp2
      go_ret
      exact ⟨rfl, ext_trans (ext_trans hbwA hb) hbz⟩
end Go.Proofs.Ytnjdlhhgnamigaa

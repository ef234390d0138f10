/- The law YardRuns, walked. -/
import Derived.Deep.DeepCutAuto
import Derived.Test.YtopfhinnamhoiaaEngE
namespace Go.Proofs.Ytopfhinnamhoiaa
open Go.RowKit Go.Bs Go.Yd Go.Pl Go.Sort

theorem runR_bad {l : List Eng} (h : engOkB l = false) (load need : Int) : runR l load need = ([], 0, 1) := by unfold runR; rw [h]; rfl
theorem runR_rng {l : List Eng} (h : engOkB l = true) {load need : Int} (h2 : ¬ ((0 ≤ load ∧ load ≤ 10000000) ∧ (0 ≤ need ∧ need ≤ 10000000))) : runR l load need = ([], 0, 2) := by unfold runR; rw [if_pos h, if_neg h2]
theorem runR_ok {l : List Eng} (h : engOkB l = true) {load need : Int} (h2 : (0 ≤ load ∧ load ≤ 10000000) ∧ (0 ≤ need ∧ need ≤ 10000000)) :
    runR l load need = if bestS l load need = 0 then ([], 0, 7) else (setN l.length (bestS l load need), (fuelS l (bestS l load need) load).1, 0) := by unfold runR; rw [if_pos h, if_pos h2]
theorem bestS_lt {l : List Eng} (h : engOk l) (load need : Int) : bestS l load need < 64 := by
  have := (bestTo_spec l load need (carry_zero l load need) (2 ^ l.length)).1
  have h64 : 2 ^ l.length ≤ 64 := Nat.le_trans (Nat.pow_le_pow_right (by omega) h.1.2) (by decide)
  unfold bestS
  omega

set_option maxRecDepth 100000 in
set_option maxHeartbeats 4000000 in
theorem runs_law (l : List Eng) (A : Option Addr) (n cap : Nat) (load need : Int) (w : World) (hn : l.length = n) (hn9 : n ≤ 9223372036854775807) (hd : Cells w A 3 Eng.enc l) :
    Calls Try.prog 14 #[.slice A n cap, .int .i64 load, .int .i64 need] w fun e w' => e = .returned (.bool true) ∧ Below w.heap.size w w' := by
  by_cases h8 : n ≤ 8
  · have h8' : ¬ (8 : Int) < (n : Int) := by omega
    have Hn := Lib.hid hn
    have HE := Lib.hid (fun W (hc : Cells W A 3 Eng.enc l) => Engines_any l A n cap W hn (by omega) hc)
    have HRun := Lib.hid (fun W A' c' (hc : Cells W A' 3 Eng.enc l) => Run_any l A' n c' load need W hn hn9 hc)
    have HR := Lib.hid (fun W (hc : Cells W A 3 Eng.enc l) => REng_any l A n cap W hn hn9 hc)
    obtain ⟨S, f, er, hrr⟩ : ∃ S f er, runR l load need = (S, f, er) := ⟨_, _, _, rfl⟩
    rw [hrr] at HRun
    have Hrr := Lib.hid hrr
    generalize hokv : engOkB l = okv at *
    have Hokv := Lib.hid hokv
    clear hrr hokv hn
    go_enter Try.func14, Try.ntmps14
    go_wp2_with fail
    refine (HE.out w hd).mono ?_; rintro e w1 ⟨v1, rfl, hv1, hb1⟩
    obtain ⟨A1, c1, rfl, -, -, hC1, -⟩ := hv1
    rw [Hn.out]
    go_wp2_with fail
    refine (HRun.out w1 A1 c1 hC1).mono ?_; rintro e w2 ⟨v2, rfl, hv2, hb2⟩
    simp only at hv2 ⊢
    obtain ⟨A2, c2, rfl, -, -, hC2, -⟩ := hv2
    obtain ⟨q, hq⟩ : ∃ q, (natsI S).length = q := ⟨_, rfl⟩
    rw [hq]
    have Hq := Lib.hid hq
    have hb3 := ext_trans hb1 hb2
    clear hb1 hb2 hC1 hq
    go_wp2_with fail
    refine (HR.out w2 (hd.ext hb3)).mono ?_; rintro e w3 ⟨rfl, rfl⟩
    cases okv
    · have e1 := Hrr.out
      rw [runR_bad Hokv.out] at e1
      simp only [Prod.mk.injEq] at e1
      obtain ⟨rfl, rfl, rfl⟩ := e1
      obtain rfl : q = 0 := by rw [← Hq.out]; rfl
      go_wp2_with fail
      refine (wakes_any _).mono ?_; rintro e w4 ⟨rfl, hb4⟩
      go_wp2
      go_ret
      exact ⟨rfl, ext_trans hb3 hb4⟩
    · have hok := (engOkB_iff l).1 Hokv.out
      by_cases h1 : 0 ≤ load ∧ load ≤ 10000000
      · have C1 := Lib.hid (In_t h1)
        by_cases h2 : 0 ≤ need ∧ need ≤ 10000000
        · have C2 := Lib.hid (In_t h2)
          have e1 := Hrr.out
          rw [runR_ok Hokv.out ⟨h1, h2⟩] at e1
          have HRR := Lib.hid (fun W (hc : Cells W A 3 Eng.enc l) => RRun_any l A n cap load need W hok Hn.out h1 h2 hc)
          have hb64 := bestS_lt hok load need
          have hmn := fun s => (show (setN n s).length ≤ n by have := List.length_filter_le (fun i => s.testBit i) (List.range n); simpa [setN] using this)
          have HF := Lib.hid (fun (s m cm : Nat) (V : Option Addr) (W : World) h (hc : Cells W A 3 Eng.enc l) hv => RFuel_any l A n cap s V m cm load W hok Hn.out h h1 hc hv)
          rw [Hn.out] at e1
          generalize bestS l load need = bs at *
          by_cases hz : bs = 0
          · subst hz
            rw [if_pos rfl] at e1
            simp only [Prod.mk.injEq] at e1
            obtain ⟨rfl, rfl, rfl⟩ := e1
            obtain rfl : q = 0 := by rw [← Hq.out]; rfl
            clear h1 h2
            go_wp2_with fail
            refine (C1.out _).mono ?_; rintro e w4 ⟨rfl, rfl⟩
            go_wp2_with fail
            refine (C2.out _).mono ?_; rintro e w4 ⟨rfl, rfl⟩
            go_wp2_with fail
            refine (HRR.out w2 (hd.ext hb3)).mono ?_; rintro e w4 ⟨rfl, hb4⟩
            go_wp2_with fail
            refine (wakes_any _).mono ?_; rintro e w5 ⟨rfl, hb5⟩
            go_wp2
            go_ret
            exact ⟨rfl, ext_trans (ext_trans hb3 hb4) hb5⟩
          · rw [if_neg hz] at e1
            simp only [Prod.mk.injEq] at e1
            obtain ⟨rfl, rfl, rfl⟩ := e1
            have hz' : ((bs : Int) == 0) = false := by simp; omega
            have hq6 : q ≤ 8 := by have := hmn bs; rw [← Hq.out, natsI_len]; omega
            have hql : (setN n bs).length = q := by rw [← Hq.out, natsI_len]
            have Hql := Lib.hid hql
            clear h1 h2 hz hmn hql
            go_wp2_with fail
            refine (C1.out _).mono ?_; rintro e w4 ⟨rfl, rfl⟩
            go_wp2_with fail
            refine (C2.out _).mono ?_; rintro e w4 ⟨rfl, rfl⟩
            go_wp2_with fail
            refine (HRR.out w2 (hd.ext hb3)).mono ?_; rintro e w4 ⟨rfl, hb4⟩
            have hb5 := ext_trans hb3 hb4
            go_wp2_with fail
            refine (HRR.out w4 (hd.ext hb5)).mono ?_; rintro e w5 ⟨rfl, hb6⟩
            have hb7 := ext_trans hb5 hb6
            go_wp2_with fail
            refine (Set_any A n cap bs w5 (by omega) (by omega)).mono ?_; rintro e w6 ⟨v6, rfl, hv6, hb8⟩
            obtain ⟨A6, c6, rfl, -, -, hC6, -⟩ := hv6
            rw [natsI_len, Hql.out]
            have hb9 := ext_trans hb7 hb8
            have hC3 := ((hC2.ext hb4).ext hb6).ext hb8
            have hE := ints_any A2 A6 q q c2 c6 (natsI (setN n bs)) (natsI (setN n bs)) w6 Hq.out Hq.out (by omega) (by omega) hC3 hC6
            rw [decide_eq_true rfl] at hE
            have HE2 := Lib.hid hE
            clear hE hb3 hb4 hb5 hb6 hb7 hb8 hC2
            go_wp2_with fail
            refine HE2.out.mono ?_; rintro e w7 ⟨rfl, hb10⟩
            have hb11 := ext_trans hb9 hb10
            go_wp2_with fail
            refine (HF.out bs q c6 A6 w7 Hql.out (hd.ext hb11) (hC6.ext hb10)).mono ?_; rintro e w8 ⟨rfl, hb12⟩
            generalize (fuelS l bs load).1 = fu at *
            go_wp2_with fail
            refine (wakes_any _).mono ?_; rintro e w9 ⟨rfl, hb13⟩
            go_wp2
            go_ret
            exact ⟨rfl, ext_trans (ext_trans hb11 hb12) hb13⟩
        · have C2 := Lib.hid (In_f h2)
          have e1 := Hrr.out
          rw [runR_rng Hokv.out (fun h => h2 h.2)] at e1
          simp only [Prod.mk.injEq] at e1
          obtain ⟨rfl, rfl, rfl⟩ := e1
          obtain rfl : q = 0 := by rw [← Hq.out]; rfl
          clear h1 h2
          go_wp2_with fail
          refine (C1.out _).mono ?_; rintro e w4 ⟨rfl, rfl⟩
          go_wp2_with fail
          refine (C2.out _).mono ?_; rintro e w4 ⟨rfl, rfl⟩
          go_wp2_with fail
          refine (wakes_any _).mono ?_; rintro e w4 ⟨rfl, hb4⟩
          go_wp2
          go_ret
          exact ⟨rfl, ext_trans hb3 hb4⟩
      · have C1 := Lib.hid (In_f h1)
        have e1 := Hrr.out
        rw [runR_rng Hokv.out (fun h => h1 h.1)] at e1
        simp only [Prod.mk.injEq] at e1
        obtain ⟨rfl, rfl, rfl⟩ := e1
        obtain rfl : q = 0 := by rw [← Hq.out]; rfl
        clear h1
        go_wp2_with fail
        refine (C1.out _).mono ?_; rintro e w4 ⟨rfl, rfl⟩
        go_wp2_with fail
        refine (wakes_any _).mono ?_; rintro e w4 ⟨rfl, hb4⟩
        go_wp2
        go_ret
        exact ⟨rfl, ext_trans hb3 hb4⟩
  · have h8' : (8 : Int) < (n : Int) := by omega
    clear hd hn
    go_enter Try.func14, Try.ntmps14
    go_wp2_with fail
    refine (wakes_any _).mono ?_; rintro e w4 ⟨rfl, hb4⟩
    go_wp2
    go_ret
    exact ⟨rfl, hb4⟩
end Go.Proofs.Ytopfhinnamhoiaa

/- Walk: Run. -/
import Derived.Deep.DeepCutAuto
import Derived.Test.YtopfhinnamhoiaaEngB
namespace Go.Proofs.Ytopfhinnamhoiaa
open Go.RowKit Go.Bs Go.Yd Go.Pl Go.Sort

theorem eng_ok_any (l : List Eng) (w : World) : PredB Try.prog 95 #[] Eng.val engB w l := by
  intro W x hx hb
  obtain ⟨a, b, c⟩ := x
  show Calls Try.prog 95 #[.agg #[.int .i64 a, .int .i64 b, .int .i64 c]] W fun e w' => e = .returned (.bool (engB ⟨a, b, c⟩)) ∧ Below W.heap.size W w'
  have hb0 := ext_alloc W (.cells #[.int .i64 a, .int .i64 b, .int .i64 c] 121)
  by_cases h1 : 0 ≤ a ∧ a ≤ 10000000
  · have C1 := Lib.hid (within_t h1)
    by_cases h2 : 0 ≤ b ∧ b ≤ 100000
    · have C2 := Lib.hid (within_t h2)
      by_cases h3 : 0 ≤ c ∧ c ≤ 10000
      · have C3 := Lib.hid (within_t h3)
        have Hr := Lib.hid (show true = engB ⟨a, b, c⟩ by simp [engB, h1, h2, h3])
        clear h1 h2 h3 hx
        go_enter Try.func95, Try.ntmps95
        go_wp2_with fail
        refine (C1.out _).mono ?_; rintro e w1 ⟨rfl, rfl⟩
        go_wp2_with fail
        refine (C2.out _).mono ?_; rintro e w1 ⟨rfl, rfl⟩
        go_wp2_with fail
        refine (C3.out _).mono ?_; rintro e w1 ⟨rfl, rfl⟩
        go_wp2
        go_ret
        exact ⟨ret_congr (bool_congr Hr.out), hb0⟩
      · have C3 := Lib.hid (within_f h3)
        have Hr := Lib.hid (show false = engB ⟨a, b, c⟩ by simp [engB]; omega)
        clear h1 h2 h3 hx
        go_enter Try.func95, Try.ntmps95
        go_wp2_with fail
        refine (C1.out _).mono ?_; rintro e w1 ⟨rfl, rfl⟩
        go_wp2_with fail
        refine (C2.out _).mono ?_; rintro e w1 ⟨rfl, rfl⟩
        go_wp2_with fail
        refine (C3.out _).mono ?_; rintro e w1 ⟨rfl, rfl⟩
        go_wp2
        go_ret
        exact ⟨ret_congr (bool_congr Hr.out), hb0⟩
    · have C2 := Lib.hid (within_f h2)
      have Hr := Lib.hid (show false = engB ⟨a, b, c⟩ by simp [engB]; omega)
      clear h1 h2 hx
      go_enter Try.func95, Try.ntmps95
      go_wp2_with fail
      refine (C1.out _).mono ?_; rintro e w1 ⟨rfl, rfl⟩
      go_wp2_with fail
      refine (C2.out _).mono ?_; rintro e w1 ⟨rfl, rfl⟩
      go_wp2
      go_ret
      exact ⟨ret_congr (bool_congr Hr.out), hb0⟩
  · have C1 := Lib.hid (within_f h1)
    have Hr := Lib.hid (show false = engB ⟨a, b, c⟩ by simp [engB]; omega)
    clear h1 hx
    go_enter Try.func95, Try.ntmps95
    go_wp2_with fail
    refine (C1.out _).mono ?_; rintro e w1 ⟨rfl, rfl⟩
    go_wp2
    go_ret
    exact ⟨ret_congr (bool_congr Hr.out), hb0⟩

def engOkB (l : List Eng) : Bool := decide (1 ≤ l.length ∧ l.length ≤ 6) && l.all engB
theorem engOkB_iff (l : List Eng) : engOkB l = true ↔ engOk l := by
  simp [engOkB, engOk, engB_iff]
/-- what Run hands back: the set, the fuel, the error -/
def bestS (l : List Eng) (load need : Int) : Nat := bestTo l load need (2 ^ l.length)
def runR (l : List Eng) (load need : Int) : List Nat × Int × Int :=
  if engOkB l then (if (0 ≤ load ∧ load ≤ 10000000) ∧ (0 ≤ need ∧ need ≤ 10000000) then
    (if bestS l load need = 0 then ([], 0, 7) else (setN l.length (bestS l load need), (fuelS l (bestS l load need) load).1, 0)) else ([], 0, 2)) else ([], 0, 1)
theorem carry_zero (l : List Eng) (load need : Int) : carryS l 0 load need = false := by
  have : setN l.length 0 = [] := by simp [setN]
  unfold carryS; rw [this]; rfl
theorem setN_succ (s k : Nat) : (List.range (k + 1)).filter (fun i => s.testBit i) = if s.testBit k = true then (List.range k).filter (fun i => s.testBit i) ++ [k] else (List.range k).filter (fun i => s.testBit i) := by
  rw [List.range_succ, List.filter_append]
  by_cases h : s.testBit k = true
  · rw [if_pos h]; simp [h]
  · rw [if_neg h]; simp [h]
def RunPost (R : List Nat × Int × Int) (w : World) (e : Ending) (w' : World) : Prop :=
  ∃ v, e = .returned (.tuple #[v, .int .i64 R.2.1, .int .i64 R.2.2]) ∧ FreshL w w' 1 encI v (natsI R.1) ∧ Below w.heap.size w w'
/-- the sum so far: of no set it is 0 -/
def fuelAt (l : List Eng) (load need : Int) (m : Nat) : Int := if bestTo l load need m = 0 then 0 else (fuelS l (bestTo l load need m) load).1

set_option maxRecDepth 100000 in
set_option maxHeartbeats 4000000 in
theorem Run_any (l : List Eng) (A : Option Addr) (n cap : Nat) (load need : Int) (w : World) (hn : l.length = n) (hn9 : n ≤ 9223372036854775807) (hd : Cells w A 3 Eng.enc l) :
    Calls Try.prog 61 #[.slice A n cap, .int .i64 load, .int .i64 need] w (RunPost (runR l load need) w) := by
  have Hn := Lib.hid hn
  have HA := Lib.hid (all_eng 95 #[] engB A n cap l w (enters_of Try.func95 (by kernel_rfl) rfl) hn hn9 hd (eng_ok_any l w))
  by_cases h1 : 1 ≤ n ∧ n ≤ 6
  · have C1 := Lib.hid (within_t (n := (n : Int)) (lo := 1) (hi := 6) (by omega))
    cases hall : l.all engB
    · have HR := Lib.hid (show runR l load need = ([], 0, 1) by unfold runR engOkB; rw [hall]; simp)
      rw [hall] at HA
      clear hall hn h1
      go_enter Try.func61, Try.ntmps61
      go_wp2_with fail
      refine (C1.out _).mono ?_; rintro e w1 ⟨rfl, rfl⟩
      go_wp2_with fail
      refine HA.out.mono ?_; rintro e w1 ⟨rfl, hb1⟩
      go_wp2
      rw [HR.out]
      go_ret3
      exact ⟨_, rfl, FreshL.nil _ _ _ _, hb1⟩
    · have hokB : engOkB l = true := by unfold engOkB; rw [hn, hall]; simp; exact h1
      have hok := (engOkB_iff l).1 hokB
      rw [hall] at HA
      clear hall
      by_cases h2 : 0 ≤ load ∧ load ≤ 10000000
      · have C2 := Lib.hid (within_t h2)
        by_cases h3 : 0 ≤ need ∧ need ≤ 10000000
        · have C3 := Lib.hid (within_t h3)
          have hRR : runR l load need = if bestS l load need = 0 then ([], 0, 7) else (setN n (bestS l load need), (fuelS l (bestS l load need) load).1, 0) := by
            unfold runR; rw [hokB, if_pos rfl, if_pos ⟨h2, h3⟩, hn]
          have hspec := bestTo_spec l load need (carry_zero l load need)
          have h64 : 2 ^ n ≤ 64 := Nat.le_trans (Nat.pow_le_pow_right (by omega) h1.2) (by decide)
          have h0n : 0 < 2 ^ n := Nat.pos_of_ne_zero (by simp)
          have hbs : bestS l load need = bestTo l load need (2 ^ n) := by unfold bestS; rw [hn]
          have HF := Lib.hid (fun (s : Nat) (W : World) (h : s < 2 ^ n) (hc : Cells W A 3 Eng.enc l) => fuel_any l A n cap s load need W Hn.out hok h h2 h3 hc)
          have HRR := Lib.hid hRR
          have Hspec := Lib.hid hspec
          have Hbs := Lib.hid hbs
          have hpw : (2 : Int) ^ n = ((2 ^ n : Nat) : Int) := by norm_cast
          have HP := Lib.hid hpw
          clear hRR hspec hbs hokB hn hpw
          go_enter Try.func61, Try.ntmps61
          go_wp2_with fail
          refine (C1.out _).mono ?_; rintro e w1 ⟨rfl, rfl⟩
          go_wp2_with fail
          refine HA.out.mono ?_; rintro e w1 ⟨rfl, hb1⟩
          go_wp2_with fail
          refine (C2.out _).mono ?_; rintro e w2 ⟨rfl, rfl⟩
          go_wp2_with fail
          refine (C3.out _).mono ?_; rintro e w2 ⟨rfl, rfl⟩
          go_wp2
          have hw : wrap64 ((2 : Int) ^ n) = ((2 ^ n : Nat) : Int) := by rw [HP.out]; unfold wrap64; omega
          rw [hw]
          have Hbt : Hid (∀ m, bestTo l load need (m + 1) = if carryS l m load need = true ∧ (bestTo l load need m = 0 ∨ (fuelS l m load).1 < (fuelS l (bestTo l load need m) load).1) then m else bestTo l load need m) := Lib.hid (fun _ => rfl)
          have Hlt : Hid (bestTo l load need (2 ^ n) < 2 ^ n) := Lib.hid (by have := (Hspec.out (2 ^ n)).1; omega)
          rw [← Hbs.out] at Hlt
          clear hw Hspec HP
          generalize hN : 2 ^ n = N at *
          clear hN
          go_loopw [7, 9, 36] (fun su be x wr => ∃ m : Nat, x = .int .i64 m ∧ m ≤ N ∧ be = .int .i64 (bestTo l load need m) ∧ su = .int .i64 (fuelAt l load need m) ∧ Below w.heap.size w wr) (fun _ _ x _ => N - (intOf x).toNat)
          case atStart => exact ⟨0, rfl, by omega, rfl, rfl, hb1⟩
          case round =>
            clear hb1
            obtain ⟨m, rfl, hm, rfl, rfl, hb⟩ := hrel
            by_cases hlt : m < N
            · have hlt' : (m : Int) < (N : Int) := by omega
              have hbt := Hbt.out m
              have hfa : fuelAt l load need (m + 1) = if bestTo l load need (m + 1) = 0 then 0 else (fuelS l (bestTo l load need (m + 1)) load).1 := rfl
              have hfb : fuelAt l load need m = if bestTo l load need m = 0 then 0 else (fuelS l (bestTo l load need m) load).1 := rfl
              have HC := Lib.hid (HF.out m wr hlt (hd.ext hb))
              have hc0 := carry_zero l load need
              have Hnx := Lib.hid hbt
              have Hfx := Lib.hid hfa
              clear hbt hfa
              generalize hb1' : bestTo l load need m = b1 at *
              generalize hf1' : fuelAt l load need m = f1 at *
              clear hb1' hf1'
              cases hcar : carryS l m load need
              · rw [hcar] at HC
                have hno : ¬ (carryS l m load need = true ∧ (b1 = 0 ∨ (fuelS l m load).1 < (fuelS l b1 load).1)) := fun h => by rw [hcar] at h; cases h.1
                have e1 := Lib.hid (show bestTo l load need (m + 1) = b1 by rw [Hnx.out, if_neg hno])
                have e2 := Lib.hid (show fuelAt l load need (m + 1) = f1 by rw [Hfx.out, e1.out, hfb])
                clear hfb hcar hc0 hno
                go_wp2_with fail
                refine HC.out.mono ?_; rintro e w2 ⟨rfl, hb2⟩
                go_wp2
                go_roundw
                case rel => exact ⟨m + 1, by go_num, by omega, by rw [e1.out], by rw [e2.out], ext_trans hb hb2⟩
                case measure => simp [intOf]; omega
              · have hm0 : m ≠ 0 := fun e => by subst e; rw [hc0] at hcar; cases hcar
                rw [hcar] at HC
                by_cases hb0 : b1 = 0
                · subst hb0
                  have e1 := Lib.hid (show bestTo l load need (m + 1) = m by rw [Hnx.out, if_pos ⟨hcar, .inl rfl⟩])
                  have e2 := Lib.hid (show fuelAt l load need (m + 1) = (fuelS l m load).1 by rw [Hfx.out, e1.out, if_neg hm0])
                  clear hfb hcar hc0
                  go_wp2_with fail
                  refine HC.out.mono ?_; rintro e w2 ⟨rfl, hb2⟩
                  go_wp2
                  go_roundw
                  case rel => exact ⟨m + 1, by go_num, by omega, by rw [e1.out], by rw [e2.out], ext_trans hb hb2⟩
                  case measure => simp [intOf]; omega
                · have hb0' : ((b1 : Int) == 0) = false := by simp; omega
                  rw [if_neg hb0] at hfb
                  by_cases hlt2 : (fuelS l m load).1 < f1
                  · have hyes : carryS l m load need = true ∧ (b1 = 0 ∨ (fuelS l m load).1 < (fuelS l b1 load).1) := ⟨hcar, .inr (by rw [← hfb]; exact hlt2)⟩
                    have e1 := Lib.hid (show bestTo l load need (m + 1) = m by rw [Hnx.out, if_pos hyes])
                    have e2 := Lib.hid (show fuelAt l load need (m + 1) = (fuelS l m load).1 by rw [Hfx.out, e1.out, if_neg hm0])
                    clear hfb hcar hc0 hyes hb0
                    generalize (fuelS l m load).1 = fm at *
                    go_wp2_with fail
                    refine HC.out.mono ?_; rintro e w2 ⟨rfl, hb2⟩
                    go_wp2
                    go_roundw
                    case rel => exact ⟨m + 1, by go_num, by omega, by rw [e1.out], by rw [e2.out], ext_trans hb hb2⟩
                    case measure => simp [intOf]; omega
                  · have hno : ¬ (carryS l m load need = true ∧ (b1 = 0 ∨ (fuelS l m load).1 < (fuelS l b1 load).1)) := fun h => by
                      rcases h.2 with h | h
                      · exact hb0 h
                      · rw [← hfb] at h; exact hlt2 h
                    have e1 := Lib.hid (show bestTo l load need (m + 1) = b1 by rw [Hnx.out, if_neg hno])
                    have e2 := Lib.hid (show fuelAt l load need (m + 1) = f1 by rw [Hfx.out, e1.out, if_neg hb0, hfb])
                    clear hfb hcar hc0 hno hb0
                    generalize (fuelS l m load).1 = fm at *
                    go_wp2_with fail
                    refine HC.out.mono ?_; rintro e w2 ⟨rfl, hb2⟩
                    go_wp2
                    go_roundw
                    case rel => exact ⟨m + 1, by go_num, by omega, by rw [e1.out], by rw [e2.out], ext_trans hb hb2⟩
                    case measure => simp [intOf]; omega
            · obtain rfl : m = N := by omega
              have hfm : fuelAt l load need m = if bestTo l load need m = 0 then 0 else (fuelS l (bestTo l load need m) load).1 := rfl
              rw [← Hbs.out] at hfm ⊢
              have hrr := HRR.out
              have Hltv := Hlt.out
              clear Hbt Hbs HF
              generalize fuelAt l load need m = f1 at *
              generalize hbv : bestS l load need = bv at *
              by_cases hb0 : bv = 0
              · subst hb0
                have HR := Lib.hid (show runR l load need = ([], 0, 7) by rw [hrr, if_pos rfl])
                clear hfm hrr hbv HRR
                go_wp2
                rw [HR.out]
                go_ret3
                exact ⟨_, rfl, FreshL.nil _ _ _ _, hb⟩
              · have HR := Lib.hid (show runR l load need = (setN n bv, f1, 0) by rw [hrr, if_neg hb0, hfm, if_neg hb0])
                have hb0' : ((bv : Int) == 0) = false := by simp; omega
                have h9 : bv < 9223372036854775808 := by omega
                have hsz := hb.size
                clear hfm hrr hbv HRR hb0
                go_wp2
                generalize wr = wx at *
                go_loopw [6, 64] (fun v x wr2 => ∃ k : Nat, x = .int .i64 k ∧ k ≤ n ∧ OwnL wr2 wx.heap.size 3 1 encI v (natsI ((List.range k).filter fun i => bv.testBit i)) ∧ Below wx.heap.size wx wr2) (fun _ x _ => n - (intOf x).toNat)
                case atStart => exact ⟨0, rfl, by omega, OwnL.nil, Below.refl _ _⟩
                case round =>
                  obtain ⟨k, rfl, hk, hown, hb2⟩ := hrel
                  by_cases hlt : k < n
                  · have hlt' : (k : Int) < (n : Int) := by omega
                    have hk0 : (0 : Int) ≤ (k : Int) := by omega
                    have hsc := setN_succ bv k
                    have hlen : ((List.range k).filter fun i => bv.testBit i).length ≤ k := by have := List.length_filter_le (fun i => bv.testBit i) (List.range k); simpa using this
                    go_upto_if 71 with fail
                    rw [bit_and1 bv k h9]
                    generalize bits BinOp.and IntKind.i64 ((bv : Int) / 2 ^ k) 1 = zb
                    cases hbit : bv.testBit k
                    · have Hs := Lib.hid (show (List.range (k + 1)).filter (fun i => bv.testBit i) = (List.range k).filter (fun i => bv.testBit i) by rw [hsc, hbit]; rfl)
                      clear hsc hbit
                      go_wp2
                      go_roundw
                      case rel => exact ⟨k + 1, by go_num, by omega, by rw [Hs.out]; exact hown, hb2⟩
                      case measure => simp [intOf]; omega
                    · have Hs := Lib.hid (show (List.range (k + 1)).filter (fun i => bv.testBit i) = (List.range k).filter (fun i => bv.testBit i) ++ [k] by rw [hsc, hbit]; rfl)
                      have hnew := Blk.new wr 3 [.int .i64 k]
                      have hsz2 := hb2.size
                      clear hsc hbit
                      generalize (List.range k).filter (fun i => bv.testBit i) = fl at *
                      obtain ⟨q, hq⟩ : ∃ q, (natsI fl).length = q := ⟨_, rfl⟩
                      have hq2 : q ≤ k := by rw [← hq, natsI_len]; exact hlen
                      go_wp2_with (at_builtin; refine app1 encI 24 3 1 8 et24 (by decide) (by decide) encI_len encI_one rfl _ _ rfl wx.heap.size _ (natsI fl) rfl (hown.alloc _) wr.heap.size rfl (k : Int) (encI_cell (hnew.cell rfl)) (by omega) (by simp; omega) ?_; intro g' cap' w' hown' hb3 _ _)
                      rw [natsI_snoc, ← Hs.out, hq] at hown'
                      go_roundw
                      case rel => exact ⟨k + 1, by go_num, by omega, hown', (hb2.alloc hsz2 _).trans hb3⟩
                      case measure => simp [intOf]; omega
                  · obtain rfl : k = n := by omega
                    go_wp2
                    rw [HR.out]
                    go_ret3
                    exact ⟨_, rfl, FreshL.of_own hown encI_len hsz, ext_trans hb hb2⟩
        · have C3 := Lib.hid (within_f h3)
          have HR := Lib.hid (show runR l load need = ([], 0, 2) by unfold runR; rw [hokB, if_pos rfl, if_neg (fun h => h3 h.2)])
          clear hn h1 h2 h3 hok hokB
          go_enter Try.func61, Try.ntmps61
          go_wp2_with fail
          refine (C1.out _).mono ?_; rintro e w1 ⟨rfl, rfl⟩
          go_wp2_with fail
          refine HA.out.mono ?_; rintro e w1 ⟨rfl, hb1⟩
          go_wp2_with fail
          refine (C2.out _).mono ?_; rintro e w2 ⟨rfl, rfl⟩
          go_wp2_with fail
          refine (C3.out _).mono ?_; rintro e w2 ⟨rfl, rfl⟩
          go_wp2
          rw [HR.out]
          go_ret3
          exact ⟨_, rfl, FreshL.nil _ _ _ _, hb1⟩
      · have C2 := Lib.hid (within_f h2)
        have HR := Lib.hid (show runR l load need = ([], 0, 2) by unfold runR; rw [hokB, if_pos rfl, if_neg (fun h => h2 h.1)])
        clear hn h1 h2 hok hokB
        go_enter Try.func61, Try.ntmps61
        go_wp2_with fail
        refine (C1.out _).mono ?_; rintro e w1 ⟨rfl, rfl⟩
        go_wp2_with fail
        refine HA.out.mono ?_; rintro e w1 ⟨rfl, hb1⟩
        go_wp2_with fail
        refine (C2.out _).mono ?_; rintro e w2 ⟨rfl, rfl⟩
        go_wp2
        rw [HR.out]
        go_ret3
        exact ⟨_, rfl, FreshL.nil _ _ _ _, hb1⟩
  · have C1 := Lib.hid (within_f (n := (n : Int)) (lo := 1) (hi := 6) (by omega))
    have HR := Lib.hid (show runR l load need = ([], 0, 1) by
      have : engOkB l = false := by unfold engOkB; rw [hn, decide_eq_false h1]; rfl
      unfold runR; rw [this]; rfl)
    clear hn h1 hd HA
    go_enter Try.func61, Try.ntmps61
    go_wp2_with fail
    refine (C1.out _).mono ?_; rintro e w1 ⟨rfl, rfl⟩
    go_wp2
    rw [HR.out]
    go_ret3
    exact ⟨_, rfl, FreshL.nil _ _ _ _, Below.refl _ _⟩
end Go.Proofs.Ytopfhinnamhoiaa

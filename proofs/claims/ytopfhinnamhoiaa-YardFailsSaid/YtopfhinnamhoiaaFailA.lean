/- The law YardFails, walked. -/
import Derived.Deep.DeepCutAuto
import Derived.Test.YtopfhinnamhoiaaRunsA
import Derived.Test.YtopfhinnamhoiaaPlugsA
namespace Go.Proofs.Ytopfhinnamhoiaa
open Go.RowKit Go.Bs Go.Yd Go.Pl Go.Sort

theorem setN_mod (n s : Nat) : setN n (s % 2 ^ n) = setN n s := by
  unfold setN
  refine List.filter_congr (fun i hi => ?_)
  rw [Nat.testBit_mod_two_pow]
  simp [List.mem_range.1 hi]
theorem carry_mod {l : List Eng} (s : Nat) (load need : Int) : carryS l (s % 2 ^ l.length) load need = carryS l s load need := by
  unfold carryS mostS
  rw [setN_mod]
theorem rankS_mod (l : List Eng) (s : Nat) : rankS l (s % 2 ^ l.length) = rankS l s := by
  unfold rankS
  refine List.filter_congr (fun i hi => ?_)
  have := (rank_toNat _ _).mem_iff.1 hi
  rw [Nat.testBit_mod_two_pow]
  simp [List.mem_range.1 this]
theorem fuel_mod (l : List Eng) (s : Nat) (load : Int) : fuelS l (s % 2 ^ l.length) load = fuelS l s load := by unfold fuelS; rw [rankS_mod]
theorem burn_mono {l : List Eng} : ∀ (R : List Nat) (x x' y y' : Int), (∀ i ∈ R, 0 ≤ (engs l i).per) → x ≤ x' → y ≤ y' → (R.foldl (burn l) (x, y)).1 ≤ (R.foldl (burn l) (x', y')).1
  | [], x, x', y, y', _, h, _ => h
  | i :: R, x, x', y, y', hp, h1, h2 => by
    rw [List.foldl_cons, List.foldl_cons]
    have h3 : min y (engs l i).most * (engs l i).per ≤ min y' (engs l i).most * (engs l i).per := Int.mul_le_mul_of_nonneg_right (by omega) (hp i (by simp))
    exact burn_mono R _ _ _ _ (fun j hj => hp j (by simp [hj])) (by show x + _ ≤ x' + _; simp only; omega) (by show y - _ ≤ y' - _; omega)
theorem fuel_mono {l : List Eng} (hok : engOk l) (s : Nat) {a b : Int} (h : a ≤ b) : (fuelS l s a).1 ≤ (fuelS l s b).1 :=
  burn_mono _ _ _ _ _ (fun _ hi => (engs_ok hok (rankS_mem.1 hi).1).2.2.1) (Int.le_refl _) h
theorem carry_mono {l : List Eng} {s : Nat} {a b c d : Int} (h : carryS l s b d = true) (h1 : a ≤ b) (h2 : c ≤ d) : carryS l s a c = true := by
  obtain ⟨p, q, r⟩ := carry_iff.1 h
  exact carry_iff.2 ⟨p, by omega, fun i hi => by have := r i hi; omega⟩
/-- whatever carries costs no less than the best -/
theorem best_le {l : List Eng} {s : Nat} {load need : Int} (h : carryS l s load need = true) : bestS l load need ≠ 0 ∧ (fuelS l (bestS l load need) load).1 ≤ (fuelS l s load).1 := by
  rw [← carry_mod] at h
  have := (bestTo_spec l load need (carry_zero l load need) (2 ^ l.length)).2.2 _ (Nat.mod_lt _ (Nat.pos_of_ne_zero (by simp))) h
  rw [fuel_mod] at this
  exact this
theorem best_carries {l : List Eng} {load need : Int} (h : bestS l load need ≠ 0) : carryS l (bestS l load need) load need = true :=
  (bestTo_spec l load need (carry_zero l load need) (2 ^ l.length)).2.1 h
/-- with more to do there is not less -/
theorem best_more {l : List Eng} (hok : engOk l) {a b c d : Int} (h : bestS l b d ≠ 0) (h1 : a ≤ b) (h2 : c ≤ d) : (fuelS l (bestS l a c) a).1 ≤ (fuelS l (bestS l b d) b).1 :=
  Int.le_trans (best_le (carry_mono (best_carries h) h1 h2)).2 (fuel_mono hok _ h1)
/-- all others of a list's beginning -/
def restTo (l : List Eng) (S : List Nat) (i : Nat) : Nat → Int
  | 0 => 0
  | j + 1 => restTo l S i j + (if j = i then 0 else (engs l (S.getD j 0)).most)
theorem restTo_eq (l : List Eng) (S : List Nat) {i : Nat} (hi : i < S.length) : ∀ j, j ≤ S.length → restTo l S i j + (if i < j then (engs l S[i]).most else 0) = mostL l (S.take j)
  | 0, _ => by simp [restTo, mostL, isum]
  | j + 1, hj => by
    have ih := restTo_eq l S hi j (by omega)
    have hs : mostL l (S.take (j + 1)) = mostL l (S.take j) + (engs l S[j]).most := isum_map_take_succ _ _ _ (by omega)
    rw [hs, ← ih]
    have hr : restTo l S i (j + 1) = restTo l S i j + (if j = i then 0 else (engs l (S.getD j 0)).most) := rfl
    rw [hr]
    have hg : S.getD j 0 = S[j] := by simp [show j < S.length by omega]
    by_cases e : j = i
    · subst e
      rw [if_pos rfl, if_pos (by omega), if_neg (by omega)]
    · rw [if_neg e, hg]
      by_cases h : i < j
      · rw [if_pos h, if_pos (by omega)]; omega
      · rw [if_neg h, if_neg (by omega)]; omega

set_option maxRecDepth 100000 in
set_option maxHeartbeats 8000000 in
theorem fails_law (l : List Eng) (A : Option Addr) (n cap : Nat) (load need number more : Int) (w : World) (hn : l.length = n) (hn9 : n ≤ 9223372036854775807) (hnu : 0 ≤ number ∧ number ≤ 255) (hmr : 0 ≤ more ∧ more ≤ 255) (hd : Cells w A 3 Eng.enc l) :
    Calls Try.prog 15 #[.slice A n cap, .int .i64 load, .int .i64 need, .int .u8 number, .int .u8 more] w fun e w' => e = .returned (.bool true) ∧ Below w.heap.size w w' := by
  have HR := Lib.hid (REng_any l A n cap w hn hn9 hd)
  cases hokv : engOkB l
  · rw [hokv] at HR
    clear hokv hd hn
    go_enter Try.func15, Try.ntmps15
    go_wp2_with fail
    refine HR.out.mono ?_; rintro e w1 ⟨rfl, rfl⟩
    go_wp2_with fail
    refine (wakes_any _).mono ?_; rintro e w2 ⟨rfl, hb⟩
    go_wp2
    go_ret
    exact ⟨rfl, hb⟩
  · rw [hokv] at HR
    have Hokv := Lib.hid hokv
    have hok := (engOkB_iff l).1 hokv
    clear hokv
    by_cases h1 : 0 ≤ load ∧ load ≤ 10000000
    · have C1 := Lib.hid (In_t h1)
      by_cases h2 : 0 ≤ need ∧ need ≤ 10000000
      · have C2 := Lib.hid (In_t h2)
        have hlen := hok.1
        rw [hn] at hlen
        have HE := Lib.hid (fun W (hc : Cells W A 3 Eng.enc l) => Engines_any l A n cap W hn (by omega) hc)
        have HRun := Lib.hid (fun (lo ne : Int) W A' c' (hc : Cells W A' 3 Eng.enc l) => Run_any l A' n c' lo ne W hn hn9 hc)
        have HSt := Lib.hid (fun (s : Nat) (W : World) (h : s < 64) => Set_any A n cap s W (by omega) (by omega))
        have HC := Lib.hid (fun (s m cm : Nat) (V : Option Addr) (W : World) h (hc : Cells W A 3 Eng.enc l) hv => Carries_any l A n cap s V m cm load need W hok hn h h2 hc hv)
        have HF := Lib.hid (fun (s m cm : Nat) (V : Option Addr) (W : World) h (hc : Cells W A 3 Eng.enc l) hv => RFuel_any l A n cap s V m cm load W hok hn h h1 hc hv)
        have hrr := runR_ok Hokv.out ⟨h1, h2⟩
        rw [hn] at hrr
        have Hn := Lib.hid hn
        have Hrr := Lib.hid hrr
        obtain ⟨nu, hnu2, htn⟩ := tmod_nat (n := 64) hnu.1 (by omega)
        have htn' : number.tmod 64 = (nu : Int) := htn
        have htn2 : number % 64 = (nu : Int) := by rw [← htn', Int.tmod_eq_emod_of_nonneg hnu.1]
        have Htn := Lib.hid htn'
        have Htn2 := Lib.hid htn2
        clear hn hrr htn htn' htn2
        go_enter Try.func15, Try.ntmps15
        go_wp2_with fail
        refine HR.out.mono ?_; rintro e w1 ⟨rfl, rfl⟩
        go_wp2_with fail
        refine (C1.out _).mono ?_; rintro e w1 ⟨rfl, rfl⟩
        go_wp2_with fail
        refine (C2.out _).mono ?_; rintro e w1 ⟨rfl, rfl⟩
        go_wp2_with fail
        refine (HE.out w hd).mono ?_; rintro e w1 ⟨v1, rfl, hv1, hb1⟩
        obtain ⟨A1, c1, rfl, -, -, hC1, -⟩ := hv1
        rw [Hn.out]
        go_wp2_with fail
        refine (HRun.out load need w1 A1 c1 hC1).mono ?_; rintro e w2 ⟨v2, rfl, hv2, hb2⟩
        have hb3 := ext_trans hb1 hb2
        clear hb1 hb2 hC1
        have hmn := fun s => (show (setN n s).length ≤ n by have := List.length_filter_le (fun i => s.testBit i) (List.range n); simpa [setN] using this)
        by_cases hz : bestS l load need = 0
        · have hrr := Hrr.out
          rw [if_pos hz] at hrr
          rw [hrr] at hv2 ⊢
          simp only
          have hnc : carryS l nu load need = false := by
            cases hc : carryS l nu load need
            · rfl
            · exact absurd hz (best_le hc).1
          have Hnc := Lib.hid hnc
          clear hrr hv2 hz hnc
          go_wp2_with fail
          rw [Htn2.out]
          refine (HSt.out nu w2 hnu2).mono ?_; rintro e w3 ⟨v3, rfl, hv3, hb4⟩
          obtain ⟨A3, c3, rfl, -, -, hC3, -⟩ := hv3
          rw [natsI_len]
          have hb5 := ext_trans hb3 hb4
          have HC1 := Lib.hid (HC.out nu (setN n nu).length c3 A3 w3 rfl (hd.ext hb5) hC3)
          rw [Hnc.out] at HC1
          go_wp2_with fail
          refine HC1.out.mono ?_; rintro e w4 ⟨rfl, rfl⟩
          go_wp2_with fail
          refine (wakes_any _).mono ?_; rintro e w5 ⟨rfl, hb6⟩
          go_wp2
          go_ret
          exact ⟨rfl, ext_trans hb5 hb6⟩
        · have hrr := Hrr.out
          rw [if_neg hz] at hrr
          rw [hrr] at hv2 ⊢
          simp only at hv2 ⊢
          obtain ⟨A2, c2, rfl, -, -, hC2, -⟩ := hv2
          have hcar := best_carries hz
          obtain ⟨hS0, hSl, hSn⟩ := carry_iff.1 hcar
          have hbest := fun (h : carryS l nu load need = true) => (best_le h).2
          have hmore1 : ∀ lo, load ≤ lo → bestS l lo need ≠ 0 → (fuelS l (bestS l load need) load).1 ≤ (fuelS l (bestS l lo need) lo).1 := fun lo h1 h2 => best_more hok h2 h1 (Int.le_refl _)
          have hmore2 : ∀ ne, need ≤ ne → bestS l load ne ≠ 0 → (fuelS l (bestS l load need) load).1 ≤ (fuelS l (bestS l load ne) load).1 := fun ne h1 h2 => best_more hok h2 (Int.le_refl _) h1
          have hml : mostS l (bestS l load need) = mostL l (setN n (bestS l load need)) := by unfold mostS mostL; rw [Hn.out]
          rw [hml] at hSl hSn
          rw [Hn.out] at hS0 hSn
          have hsort := setN_sorted n (bestS l load need)
          have hSlt : ∀ i ∈ setN n (bestS l load need), i < n := fun i hi => (mem_setN.1 hi).1
          have hql := hmn (bestS l load need)
          generalize (fuelS l (bestS l load need) load).1 = fu at *
          generalize setN n (bestS l load need) = S at *
          rw [natsI_len]
          obtain ⟨q, hq⟩ : ∃ q, S.length = q := ⟨_, rfl⟩
          rw [hq] at hql ⊢
          have hq0 : 0 < q := by
            rw [← hq]
            exact List.length_pos_iff.2 hS0
          have Hbest := Lib.hid hbest
          have Hm1 := Lib.hid hmore1
          have Hm2 := Lib.hid hmore2
          have Hq := Lib.hid hq
          have HSl := Lib.hid hSl
          have HSn := Lib.hid hSn
          have Hsort := Lib.hid hsort
          have HSlt := Lib.hid hSlt
          have hqI : (natsI S).length = q := by rw [natsI_len, hq]
          have HqI := Lib.hid hqI
          clear hrr hz hcar hS0 hSl hSn hbest hmore1 hmore2 hml hsort hSlt hq hqI Hrr hmn
          go_wp2_with fail
          rw [Htn2.out]
          refine (HSt.out nu w2 hnu2).mono ?_; rintro e w3 ⟨v3, rfl, hv3, hb4⟩
          obtain ⟨A3, c3, rfl, -, -, hC3, -⟩ := hv3
          rw [natsI_len]
          have hb5 := ext_trans hb3 hb4
          have hC4 := hC2.ext hb4
          clear hb3 hb4 hC2
          go_wp2
          go_loopw [15] (fun x wr => ∃ k : Nat, x = .int .i64 k ∧ k ≤ q ∧ Below w3.heap.size w3 wr) (fun x _ => q - (intOf x).toNat)
          case atStart => exact ⟨0, rfl, by omega, Below.refl _ _⟩
          case round =>
            obtain ⟨k, rfl, hk, hb⟩ := hrel
            by_cases hlt : k < q
            · have hlt' : (k : Int) < (q : Int) := by omega
              have hk0 : (0 : Int) ≤ (k : Int) := by omega
              have hkS : k < S.length := by rw [Hq.out]; exact hlt
              obtain ⟨hkI, hkv⟩ := natsI_at hkS
              obtain ⟨bv, ov, rfl, -, e0⟩ := (hC4.ext hb).at1 hkI rfl
              rw [hkv] at e0
              have hil := HSlt.out S[k] (List.getElem_mem hkS)
              have hs0 : ¬ ((S[k] : Nat) : Int) < 0 := by omega
              have hs1 : ((S[k] : Nat) : Int) < (n : Int) := by omega
              have hs1' : ¬ (n : Int) ≤ ((S[k] : Nat) : Int) := by omega
              go_upto_region 10 with fail
              refine Dr.wp_region_plan 30 [] (.q [0, 1, 2, 3, 4, 5, 6, 7, 8, 9, 10, 11, 12, 13, 14, 15, 16, 17, 18, 19, 20, 21, 22, 23, 24, 25, 26, 27, 28, 29] .done) (by kernel_rfl) (by kernel_rfl) ?_
              have hb' := hb.drew
              have q0 := Dr.cell0 (cell_ext e0 (ext_drew _))
              by_cases hk1 : k = 0
              · have hk1' : ¬ (0 : Int) < (k : Int) := by omega
                have hk2' : ¬ 0 < k := by omega
                clear hb e0 hk1
                generalize World.drew _ = W at *
                generalize S[k] = sk at *
                refine Dr.plan_q (l := [_, _, _, _, _, _, _, _, _, _, _, _, _, _, _, _, _, _, _, _, _, _, _, _, _, _, _, _, _, _]) rfl (fun K hK => ?_)
                iterate 30 (go_big_quiet_step (fail))
                refine wpQuiet_nil (hK _ ?_); clear hK K
                refine Dr.plan_end rfl ?_
                go_wp2
                go_roundw
                case rel => exact ⟨k + 1, by go_num, by omega, hb'⟩
                case measure => simp [intOf]; omega
              · obtain ⟨j, hj⟩ : ∃ j, k = j + 1 := ⟨k - 1, by omega⟩
                have hjS : j < S.length := by omega
                obtain ⟨hjI, hjv⟩ := natsI_at hjS
                obtain ⟨bv', ov', eA, -, f0⟩ := (hC4.ext hb).at1 hjI rfl
                cases eA
                rw [hjv] at f0
                have q1 := Dr.cell0 (cell_ext f0 (ext_drew _))
                have hjk : S[j] < S[k] := List.pairwise_iff_getElem.1 Hsort.out j k hjS hkS (by omega)
                have hle : ¬ ((S[k] : Nat) : Int) ≤ ((S[j] : Nat) : Int) := by omega
                have hkp : (0 : Int) < (k : Int) := by omega
                have hkp' : 0 < k := by omega
                have ejj : (k : Int) - 1 = (j : Int) := by omega
                have hj0 : (0 : Int) ≤ (j : Int) := by omega
                have hjq : (j : Int) < (q : Int) := by omega
                clear hb e0 f0 hj hk1 hjv
                generalize World.drew _ = W at *
                generalize S[k] = sk at *
                generalize S[j] = sj at *
                refine Dr.plan_q (l := [_, _, _, _, _, _, _, _, _, _, _, _, _, _, _, _, _, _, _, _, _, _, _, _, _, _, _, _, _, _]) rfl (fun K hK => ?_)
                iterate 30 (go_big_quiet_step (fail))
                refine wpQuiet_nil (hK _ ?_); clear hK K
                refine Dr.plan_end rfl ?_
                go_wp2
                go_roundw
                case rel => exact ⟨k + 1, by go_num, by omega, hb'⟩
                case measure => simp [intOf]; omega
            · obtain rfl : k = q := by omega
              have hb6 := ext_trans hb5 hb
              have hC5 := hC4.ext hb
              have hC6 := hC3.ext hb
              clear hb hb5 hC4 hC3
              generalize wr = w4 at *
              go_wp2
              go_loopw [16] (fun x wr => ∃ i : Nat, x = .int .i64 i ∧ i ≤ k ∧ w4 = wr) (fun x _ => k - (intOf x).toNat)
              case atStart => exact ⟨0, rfl, by omega, rfl⟩
              case round =>
                obtain ⟨i, rfl, hi, rfl⟩ := hrel
                by_cases hlt2 : i < k
                · have hlt2' : (i : Int) < (k : Int) := by omega
                  have hi0 : (0 : Int) ≤ (i : Int) := by omega
                  have hiS : i < S.length := by rw [Hq.out]; exact hlt2
                  have hrt := fun j (hj : j ≤ k) => restTo_eq l S hiS j (by rw [Hq.out]; exact hj)
                  have hmb := fun j => mostL_bd hok (S := S.take j) (fun x hx => by rw [Hn.out]; exact HSlt.out x (List.mem_of_mem_take hx))
                  have hmost := (engs_ok hok (i := S[i]) (by rw [Hn.out]; exact HSlt.out _ (List.getElem_mem hiS))).1
                  have hbd : ∀ j, j ≤ k → -10000000 ≤ restTo l S i j ∧ restTo l S i j ≤ 60000000 := fun j hj => by
                    have e1 := hrt j hj
                    have e2 := hmb j
                    have e3 : (S.take j).length ≤ 6 := by rw [List.length_take]; have := Hq.out; omega
                    split at e1 <;> omega
                  have hfin : restTo l S i k = mostL l S - (engs l S[i]).most := by
                    have e1 := hrt k (Nat.le_refl _)
                    rw [if_pos hlt2, List.take_of_length_le (by rw [Hq.out]; omega)] at e1
                    omega
                  have Hbd := Lib.hid hbd
                  have Hfin := Lib.hid hfin
                  clear hrt hmb hbd hfin
                  go_wp2
                  go_loopw [17, 18] (fun t x wr => ∃ j : Nat, x = .int .i64 j ∧ j ≤ k ∧ t = .int .i64 (restTo l S i j) ∧ w4 = wr) (fun _ x _ => k - (intOf x).toNat)
                  case atStart => exact ⟨0, rfl, by omega, rfl, rfl⟩
                  case round =>
                    obtain ⟨j, rfl, hj, rfl, rfl⟩ := hrel
                    have hbj := Hbd.out j hj
                    by_cases hlt3 : j < k
                    · have hlt3' : (j : Int) < (k : Int) := by omega
                      have hj0 : (0 : Int) ≤ (j : Int) := by omega
                      have hjS : j < S.length := by rw [Hq.out]; exact hlt3
                      have hsc : restTo l S i (j + 1) = restTo l S i j + (if j = i then 0 else (engs l (S.getD j 0)).most) := rfl
                      have hgj : S.getD j 0 = S[j] := by simp [hjS]
                      rw [hgj] at hsc
                      by_cases hji : j = i
                      · subst hji
                        have Hsc := Lib.hid (show restTo l S j (j + 1) = restTo l S j j by rw [hsc, if_pos rfl]; omega)
                        clear hsc hgj
                        go_wp2
                        go_roundw
                        case rel => exact ⟨j + 1, by go_num, by omega, by rw [Hsc.out], trivial⟩
                        case measure => simp [intOf]; omega
                      · have hne : ((j : Int) == (i : Int)) = false := by simp; omega
                        have hne' : ((j : Int) != (i : Int)) = true := by simp; omega
                        rw [if_neg hji] at hsc
                        obtain ⟨hjI, hjv⟩ := natsI_at hjS
                        obtain ⟨bv, ov, rfl, -, e0⟩ := hC5.at1 hjI rfl
                        rw [hjv] at e0
                        have hil := HSlt.out S[j] (List.getElem_mem hjS)
                        have hill : S[j] < l.length := by rw [Hn.out]; exact hil
                        have heo := engs_ok hok hill
                        have heg := engs_get hill
                        obtain ⟨b, off, rfl, -, c0, c1, c2⟩ := (hd.ext hb6).at3 hill rfl
                        rw [← heg] at c0 c1 c2
                        have Hsc := Lib.hid hsc
                        have hin : ((S[j] : Nat) : Int) < (n : Int) := by omega
                        have hs0 : (0 : Int) ≤ ((S[j] : Nat) : Int) := by omega
                        clear hsc hgj hjv heg hill hil hji
                        generalize restTo l S i j = rj at *
                        generalize S[j] = sj at *
                        generalize engs l sj = x at *
                        obtain ⟨mx, ix, px⟩ := x
                        obtain ⟨hx1, -, -⟩ := heo
                        simp only at c0 c1 c2 hx1
                        go_wp2
                        go_roundw
                        case rel => exact ⟨j + 1, by go_num, by omega, int_congr Hsc.out.symm, trivial⟩
                        case measure => simp [intOf]; omega
                    · obtain rfl : j = k := by omega
                      rw [Hfin.out] at hbj ⊢
                      obtain ⟨hiI, hiv⟩ := natsI_at hiS
                      obtain ⟨bv, ov, rfl, -, e0⟩ := hC5.at1 hiI rfl
                      rw [hiv] at e0
                      have hneed := HSn.out S[i] (List.getElem_mem hiS)
                      have hload := HSl.out
                      have hil := HSlt.out S[i] (List.getElem_mem hiS)
                      have hill : S[i] < l.length := by rw [Hn.out]; exact hil
                      have heg := engs_get hill
                      obtain ⟨b, off, rfl, -, c0, c1, c2⟩ := (hd.ext hb6).at3 hill rfl
                      rw [← heg] at c0 c1 c2
                      have hin : ((S[i] : Nat) : Int) < (n : Int) := by omega
                      have hs0 : (0 : Int) ≤ ((S[i] : Nat) : Int) := by omega
                      clear hiv heg hill hil
                      generalize mostL l S = mo at *
                      generalize S[i] = si at *
                      generalize engs l si = x at *
                      obtain ⟨mx, ix, px⟩ := x
                      simp only at c0 c1 c2 hmost hneed hbj ⊢
                      have hn1 : ¬ mo - mx < need := by omega
                      have hn2 : ¬ mo - mx + mx < load := by omega
                      have hn3 : ¬ mo < load := by omega
                      go_wp2
                      go_roundw
                      case rel => exact ⟨i + 1, by go_num, by omega, trivial⟩
                      case measure => simp [intOf]; omega
                · obtain rfl : i = k := by omega
                  have hne : ((i : Int) == 0) = false := by simp; omega
                  go_upto_region 23 with fail
                  go_cut [163] (fun z W => z = .bool false ∧ Below w.heap.size w W)
                  case first =>
                    have HC1 := Lib.hid (HC.out nu (setN n nu).length c3 A3 w4 rfl (hd.ext hb6) hC6)
                    cases hcar : carryS l nu load need
                    · rw [hcar] at HC1
                      go_wp2_with fail
                      refine HC1.out.mono ?_; rintro e w5 ⟨rfl, rfl⟩
                      go_wp2
                      go_meet
                      case rel => exact ⟨rfl, hb6⟩
                    · rw [hcar] at HC1
                      have hbst := Hbest.out hcar
                      have HF1 := Lib.hid (HF.out nu (setN n nu).length c3 A3 w4 rfl (hd.ext hb6) hC6)
                      generalize (fuelS l nu load).1 = fo at *
                      have hnl : ¬ fo < fu := by omega
                      clear hcar
                      go_wp2_with fail
                      refine HC1.out.mono ?_; rintro e w5 ⟨rfl, rfl⟩
                      go_wp2_with fail
                      refine HF1.out.mono ?_; rintro e w6 ⟨rfl, hb7⟩
                      go_wp2
                      go_meet
                      case rel => exact ⟨bool_congr (by simpa using hbst), ext_trans hb6 hb7⟩
                  case rest =>
                    obtain ⟨rfl, hb7⟩ := hcut
                    clear hb6 hC5 hC6
                    go_wp2_with fail
                    refine (HE.out wc (hd.ext hb7)).mono ?_; rintro e w5 ⟨v5, rfl, hv5, hb8⟩
                    obtain ⟨A5, c5, rfl, -, -, hC7, -⟩ := hv5
                    rw [Hn.out]
                    have hb9 := ext_trans hb7 hb8
                    go_wp2_with fail
                    obtain ⟨lo, hlo⟩ : ∃ lo, lo = min 10000000 (load + more) := ⟨_, rfl⟩
                    rw [← hlo]
                    refine (HRun.out lo need w5 A5 c5 hC7).mono ?_; rintro e w6 ⟨v6, rfl, -, hb10⟩
                    have hrr1 := runR_ok Hokv.out (load := lo) (need := need) ⟨by omega, h2⟩
                    have hm1 := Hm1.out lo (by omega)
                    have hr1 : ∃ f1 e1, (runR l lo need).2 = (f1, e1) ∧ (e1 = 7 ∨ e1 = 0 ∧ fu ≤ f1) := by
                      rw [hrr1]
                      by_cases hz : bestS l lo need = 0
                      · rw [if_pos hz]; exact ⟨_, _, rfl, .inl rfl⟩
                      · rw [if_neg hz]; exact ⟨_, _, rfl, .inr ⟨rfl, hm1 hz⟩⟩
                    obtain ⟨f1, e1, hr1, he1⟩ := hr1
                    rw [hr1]
                    simp only
                    have He1 := Lib.hid he1
                    clear hrr1 hm1 hr1 he1 hlo
                    have hb11 := ext_trans hb9 hb10
                    go_wp2_with fail
                    refine (HE.out w6 (hd.ext hb11)).mono ?_; rintro e w7 ⟨v7, rfl, hv7, hb12⟩
                    obtain ⟨A7, c7, rfl, -, -, hC8, -⟩ := hv7
                    rw [Hn.out]
                    have hb13 := ext_trans hb11 hb12
                    go_wp2_with fail
                    obtain ⟨ne, hne2⟩ : ∃ ne, ne = min 10000000 (need + more) := ⟨_, rfl⟩
                    rw [← hne2]
                    refine (HRun.out load ne w7 A7 c7 hC8).mono ?_; rintro e w8 ⟨v8, rfl, -, hb14⟩
                    have hrr1 := runR_ok Hokv.out (load := load) (need := ne) ⟨h1, by omega⟩
                    have hm1 := Hm2.out ne (by omega)
                    have hr1 : ∃ f1 e1, (runR l load ne).2 = (f1, e1) ∧ (e1 = 7 ∨ e1 = 0 ∧ fu ≤ f1) := by
                      rw [hrr1]
                      by_cases hz : bestS l load ne = 0
                      · rw [if_pos hz]; exact ⟨_, _, rfl, .inl rfl⟩
                      · rw [if_neg hz]; exact ⟨_, _, rfl, .inr ⟨rfl, hm1 hz⟩⟩
                    obtain ⟨f2, e2, hr1, he2⟩ := hr1
                    rw [hr1]
                    simp only
                    have He2 := Lib.hid he2
                    clear hrr1 hm1 hr1 he2 hne2
                    have hb15 := ext_trans hb13 hb14
                    rcases He1.out with rfl | ⟨rfl, hf1⟩
                    · rcases He2.out with rfl | ⟨rfl, hf2⟩
                      · go_wp2_with fail
                        refine (wakes_any _).mono ?_; rintro e w9 ⟨rfl, hb16⟩
                        go_wp2
                        go_ret
                        exact ⟨rfl, ext_trans hb15 hb16⟩
                      · go_wp2_with fail
                        refine (wakes_any _).mono ?_; rintro e w9 ⟨rfl, hb16⟩
                        go_wp2
                        go_ret
                        exact ⟨rfl, ext_trans hb15 hb16⟩
                    · rcases He2.out with rfl | ⟨rfl, hf2⟩
                      · go_wp2_with fail
                        refine (wakes_any _).mono ?_; rintro e w9 ⟨rfl, hb16⟩
                        go_wp2
                        go_ret
                        exact ⟨rfl, ext_trans hb15 hb16⟩
                      · go_wp2_with fail
                        refine (wakes_any _).mono ?_; rintro e w9 ⟨rfl, hb16⟩
                        go_wp2
                        go_ret
                        exact ⟨rfl, ext_trans hb15 hb16⟩
      · have C2 := Lib.hid (In_f h2)
        clear hd hn h1 h2
        go_enter Try.func15, Try.ntmps15
        go_wp2_with fail
        refine HR.out.mono ?_; rintro e w1 ⟨rfl, rfl⟩
        go_wp2_with fail
        refine (C1.out _).mono ?_; rintro e w1 ⟨rfl, rfl⟩
        go_wp2_with fail
        refine (C2.out _).mono ?_; rintro e w1 ⟨rfl, rfl⟩
        go_wp2_with fail
        refine (wakes_any _).mono ?_; rintro e w2 ⟨rfl, hb⟩
        go_wp2
        go_ret
        exact ⟨rfl, hb⟩
    · have C1 := Lib.hid (In_f h1)
      clear hd hn h1
      go_enter Try.func15, Try.ntmps15
      go_wp2_with fail
      refine HR.out.mono ?_; rintro e w1 ⟨rfl, rfl⟩
      go_wp2_with fail
      refine (C1.out _).mono ?_; rintro e w1 ⟨rfl, rfl⟩
      go_wp2_with fail
      refine (wakes_any _).mono ?_; rintro e w2 ⟨rfl, hb⟩
      go_wp2
      go_ret
      exact ⟨rfl, hb⟩
end Go.Proofs.Ytopfhinnamhoiaa

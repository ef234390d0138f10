/- Walk: Change. -/
import Derived.Test.YtnjdlhhgnamigaaGreatTilU
namespace Go.Proofs.YtnjdlhhgnamigaaGreat
open Go.RowKit Go.Bs Go.Pu Go.Pl Go.Sort

def encN (n : Nat) : List Value := [.int .i64 (n : Int)]
theorem ofNat_enc (l : List Nat) : l.map Int.ofNat = l.map (fun n : Nat => (n : Int)) := rfl

set_option maxRecDepth 100000 in
set_option maxHeartbeats 4000000 in
theorem Change_any (t : Tl) (A B : Option Addr) (n c m d : Nat) (amount : Int) (w : World) (hn : t.vals.length = n) (hm : t.cnts.length = m) (h1 : n ≤ 1000000) (h2 : m ≤ 1000000) (hA : Cells w A 1 encI t.vals) (hB : Cells w B 1 encI t.cnts) :
    Calls Tryz.prog 18 #[tlV A n c B m d, .int .i64 amount] w fun e w' => ∃ v, e = .returned (.tuple #[v, .int .i64 (changeR t amount).2]) ∧ FreshL w w' 1 encI v ((changeR t amount).1.map Int.ofNat) ∧ Below w.heap.size w w' := by
  unfold tlV
  have hb0 := ext_alloc w (.cells #[.slice A n c, .slice B m d] 59)
  have hX := Blk.new w 59 [.slice A n c, .slice B m d]
  have C1 := Lib.hid (tvalid_any t A B n c m d _ hn hm h1 h2 (hA.ext hb0) (hB.ext hb0))
  unfold tlV at C1
  have C2 := Lib.hid (fun W => within_any amount 0 5000 W)
  have hs0 : (w.alloc (.cells #[.slice A n c, .slice B m d] 59)).heap.size = w.heap.size + 1 := by simp
  have hres : changeR t amount = if t.okB then (if decide (0 ≤ amount ∧ amount ≤ 5000) = true then (if t.row 0 amount.toNat = 401 then ([], 7) else (t.chg t.vals.length amount.toNat (t.row 0 amount.toNat), 0)) else ([], 2)) else ([], 1) := by
    unfold changeR; simp only [decide_eq_true_eq]
  generalize hR : changeR t amount = R at *
  have Hres := Lib.hid hres
  clear hR hres
  have Hok := Lib.hid (fun h => (t.okB_iff).1 h)
  generalize t.okB = b1 at *
  generalize hb2 : decide (0 ≤ amount ∧ amount ≤ 5000) = b2 at *
  have Hb2 := Lib.hid hb2
  clear hb2
  have Hn := Lib.hid hn
  have Hm := Lib.hid hm
  clear hn hm
  go_enter Tryz.func18, Tryz.ntmps18
  go_upto_block 0 with fail
  change Blk (w.alloc (.cells #[.slice A n c, .slice B m d] 59)) _ _ _ at hX
  have hA0 := hA.ext hb0
  have hB0 := hB.ext hb0
  generalize w.alloc (.cells #[.slice A n c, .slice B m d] 59) = W0 at *
  have x0 : W0.cell? ⟨w.heap.size, 0, none⟩ = _ := hX.cell rfl
  have x1 : W0.cell? ⟨w.heap.size, 1, none⟩ = _ := hX.cell rfl
  go_wp2_with fail
  refine C1.out.mono ?_; rintro e W1 ⟨rfl, hb1⟩
  cases b1
  · have hr : R = ([], 1) := Hres.out
    subst hr
    go_wp2
    go_ret2
    exact ⟨_, rfl, FreshL.nil _ _ _ _, ext_trans hb0 hb1⟩
  go_wp2_with fail
  refine (C2.out _).mono ?_; rintro e W1' ⟨rfl, rfl⟩
  cases b2
  · have hr : R = ([], 2) := Hres.out
    subst hr
    go_wp2
    go_ret2
    exact ⟨_, rfl, FreshL.nil _ _ _ _, ext_trans hb0 hb1⟩
  have hok := Hok.out trivial
  have hin := of_decide_eq_true Hb2.out
  obtain ⟨most, rfl⟩ : ∃ k : Nat, amount = k := ⟨amount.toNat, by omega⟩
  obtain rfl : m = n := by rw [← Hm.out, ← Hn.out]; exact hok.eq
  have hr : R = if t.row 0 most = 401 then ([], 7) else (t.chg m most (t.row 0 most), 0) := by
    have := Hres.out
    simpa [Hn.out] using this
  have Hr := Lib.hid hr
  have hX1 := hX.ext hb1
  have hbw := ext_trans hb0 hb1
  have hA1 := hA0.ext hb1
  have hB1 := hB0.ext hb1
  have CT := Lib.hid (tables_any t hok A B m c d most W1 Hn.out (by omega) hA1 hB1)
  unfold tlV at CT
  have y0 : W1.cell? ⟨w.heap.size, 0, none⟩ = _ := hX1.cell rfl
  have y1 : W1.cell? ⟨w.heap.size, 1, none⟩ = _ := hX1.cell rfl
  have hsz1 := hb1.size
  clear hr hb0 hb1 hX x0 x1 C1 C2 hA hB hA0 hB0 Hok Hb2 Hres
  go_wp2_with fail
  refine CT.out.mono ?_; rintro e W2 ⟨O, rows, rfl, hrl, hR, hrows, hb2⟩
  have hbw2 := ext_trans hbw hb2
  have hX2 := hX1.ext hb2
  have hA2 := hA1.ext hb2
  have hB2 := hB1.ext hb2
  have z0 : W2.cell? ⟨w.heap.size, 0, none⟩ = _ := hX2.cell rfl
  have z1 : W2.cell? ⟨w.heap.size, 1, none⟩ = _ := hX2.cell rfl
  obtain ⟨v0, hv0, G0, rfl, hG0⟩ := hrows 0 (by omega)
  have o0 : W2.cell? ⟨O, 0, none⟩ = _ := hR.cell hv0
  have g0 : W2.cell? ⟨G0, most, none⟩ = _ := hG0.cell (tab_get _ (by omega))
  have hrb := Tl.row_bd hok 0 most
  have Hrl := Lib.hid hrl
  have Hrows := Lib.hid hrows
  have hsz2 := hb2.size
  have hn8 := hok.len
  rw [Hn.out] at hn8
  have Hok := Lib.hid hok
  clear hX1 hA1 hB1 CT y0 y1 hb2 hbw hrl hrows hok
  generalize hl : t.row 0 most = left at *
  by_cases h401 : left = 401
  · have hr : R = ([], 7) := by rw [Hr.out, if_pos h401]
    subst hr
    have e1 : (left == 401) = true := by simp [h401]
    go_wp2
    go_ret2
    exact ⟨_, rfl, FreshL.nil _ _ _ _, hbw2⟩
  have hr : R = (t.chg m most left, 0) := by rw [Hr.out, if_neg h401]
  subst hr
  have e1 : (left == 401) = false := by simp [h401]
  have Hl := Lib.hid hl
  clear hl Hr
  have hleft : 0 ≤ left ∧ left ≤ 400 := by omega
  go_wp2
  go_loopw [1, 7, 8, 9, 10, 11, 34] (fun a l v _ _ _ x wr => ∃ (i am : Nat) (lf : Int) (pre : List Nat), x = .int .i64 i ∧ a = .int .i64 am ∧ l = .int .i64 lf ∧ i ≤ m ∧ am ≤ most ∧ Hid (t.row i am = lf) ∧ (0 ≤ lf ∧ lf ≤ 400) ∧ OwnL wr W2.heap.size 3 1 encI v (pre.map Int.ofNat) ∧ Hid (t.chg m most left = pre ++ t.chg (m - i) am lf) ∧ Hid (pre.length = i) ∧ Below W2.heap.size W2 wr) (fun _ _ _ _ _ _ x _ => m - (intOf x).toNat)
  case atStart => exact ⟨0, most, left, [], rfl, rfl, rfl, by omega, Nat.le_refl _, Hl, hleft, OwnL.nil, Lib.hid (by simp), Lib.hid rfl, Below.refl _ _⟩
  case round =>
    obtain ⟨i, am, lf, pre, rfl, rfl, rfl, hi, ham, Hrow, hlf, hown, Hch, Hpre, hb⟩ := hrel
    by_cases hlt : i < m
    · have hlt' : (i : Int) < (m : Int) := by omega
      have hit : i < t.vals.length := by rw [Hn.out]; exact hlt
      have hic : i < t.cnts.length := by rw [Hm.out]; exact hlt
      obtain ⟨bA, offA, rfl, hltA, cA⟩ := (hA2.ext hb).at1 hit rfl
      obtain ⟨bB, offB, rfl, hltB, cB⟩ := (hB2.ext hb).at1 hic rfl
      rw [Hok.out.v_eq hit] at cA
      rw [Hok.out.c_eq hit] at cB
      have hvb := Hok.out.v_bd hit
      have hcb := Hok.out.c_bd hit
      have ht := Tl.take_spec Hok.out (a := am) hit (by rw [Hrow.out]; omega)
      rw [Hrow.out] at ht
      obtain ⟨v1, hv1, G1, rfl, hG1⟩ := Hrows.out (i + 1) (by omega)
      have hd := downN_spec (t.fits i am lf) (min (t.c i) (am / t.v i)) (t.take i am lf) (by
        have := (Nat.le_div_iff_mul_le (k := t.v i) (by omega)).2 ht.2.1
        omega) (by unfold Tl.fits; rw [ht.2.2]; simp)
      have hd3 := hd.2.1
      have hd4 := hd.2.2.2
      rw [show downN (t.fits i am lf) (min (t.c i) (am / t.v i)) = t.take i am lf from rfl] at hd3 hd4
      have hchg : t.chg (m - i) am lf = t.take i am lf :: t.chg (m - (i + 1)) (am - t.take i am lf * t.v i) (lf - t.take i am lf) := by
        rw [show m - i = (m - (i + 1)) + 1 by omega]
        show t.take (t.vals.length - 1 - (m - (i + 1))) am lf :: t.chg (m - (i + 1)) (am - t.take (t.vals.length - 1 - (m - (i + 1))) am lf * t.v (t.vals.length - 1 - (m - (i + 1)))) (lf - t.take (t.vals.length - 1 - (m - (i + 1))) am lf) = _
        rw [show t.vals.length - 1 - (m - (i + 1)) = i by rw [Hn.out]; omega]
      have Hchg := Lib.hid hchg
      have Hfit := Lib.hid (fun q (h1 : t.take i am lf < q) (h2 : q ≤ min (t.c i) (am / t.v i)) => hd4 q h1 h2)
      have Ht := Lib.hid ht.2.2
      have ht1 := ht.1
      have ht2 := ht.2.1
      have HX := Lib.hid ((hX2.ext hb).cell (i := 1) rfl)
      clear hchg hd4 ht hd
      generalize hT : t.take i am lf = T at *
      have hqv : (am : Int) / (t.v i : Int) = ((am / t.v i : Nat) : Int) := by simp
      generalize hQ : am / t.v i = Q at *
      generalize hN : min (t.c i) Q = N at *
      have hQ5 : Q ≤ 5000 := by
        have := Nat.div_le_self am (t.v i)
        omega
      have hN1 : N = if Q < t.c i then Q else t.c i := by rw [← hN]; split <;> omega
      have Hq := Lib.hid (show ∀ q, q ≤ N → q * t.v i ≤ am from fun q hq => (Nat.le_div_iff_mul_le (k := t.v i) (by omega)).1 (by rw [hQ]; omega))
      have HN := Lib.hid (And.intro hN hN1)
      clear hN hN1
      go_upto_region 13 with fail
      go_cut [11] (fun x W => x = .int .i64 (N : Int) ∧ OwnL W W2.heap.size 3 1 encI u8 (pre.map Int.ofNat) ∧ Below W2.heap.size W2 W)
      case first =>
        refine Dr.wp_region_plan 10 [] (.q [0, 1, 2, 3, 4, 5, 6, 7, 8, 9] .done) (by kernel_rfl) (by kernel_rfl) ?_
        have hbd := hb.drew
        have hod := hown.drew
        have q0 := Dr.cell0 (w := wr.drew) HX.out
        have q1 := Dr.cell0 (w := wr.drew) cB
        clear hb hown cA HX cB
        generalize wr.drew = W at *
        refine Dr.plan_q (l := [_, _, _, _, _, _, _, _, _, _]) rfl (fun K hK => ?_)
        iterate 10 (go_big_quiet_step (fail))
        refine wpQuiet_nil (hK _ ?_)
        clear hK K q0 q1
        refine Dr.plan_end rfl ?_
        go_wp2
        all_goals go_meet
        all_goals exact ⟨int_congr (by have := HN.out.1; omega), hod, hbd⟩
      case rest =>
        obtain ⟨rfl, hownc, hbc⟩ := hcut
        clear hown hb cA HX cB hqv hQ5
        go_wp2
        go_loopw [11] (fun x wr => ∃ q : Nat, x = .int .i64 q ∧ T ≤ q ∧ q ≤ N ∧ wc = wr) (fun x _ => (intOf x).toNat)
        case atStart => exact ⟨N, rfl, hd3, Nat.le_refl _, rfl⟩
        case round =>
          obtain ⟨q, rfl, hq1, hq2, rfl⟩ := hrel
          have hpa := Hq.out q hq2
          generalize hp : q * t.v i = p at *
          have hpi : (q : Int) * (t.v i : Int) = (p : Int) := by rw [← hp]; simp
          obtain ⟨dd, hdd⟩ : ∃ dd : Nat, am - p = dd := ⟨_, rfl⟩
          have hdi : (am : Int) - (p : Int) = (dd : Int) := by omega
          have hRc := hR.ext hbc
          have hGc : IArr wc G1 3 _ := Blk.ext hG1 hbc
          have r1 : wc.cell? ⟨O, i + 1, none⟩ = _ := hRc.cell hv1
          have r2 : wc.cell? ⟨G1, dd, none⟩ = _ := hGc.cell (tab_get _ (by omega))
          have hqb : q ≤ 50 := by have := HN.out.1; omega
          by_cases hqT : q = T
          · have hfd : t.row (i + 1) dd = lf - q := by
              have := Ht.out
              rw [← hqT, hp, hdd] at this
              exact this
            rw [hfd] at r2
            obtain rfl : q = T := hqT
            rw [hp, hdd] at Hchg
            have hddm : dd ≤ most := by omega
            have hrb := Tl.row_bd Hok.out (i + 1) dd
            have hpre := Hpre.out
            have hnew := Blk.new wc 3 [.int .i64 (q : Int)]
            have hszc := hbc.size
            have hnx : t.row (i + 1) dd = lf - q := hfd
            have Hnx := Lib.hid hnx
            have Hfd := Lib.hid hfd
            clear hfd hnx hdd hp
            go_wp2_with (at_builtin; refine app1 encI 22 3 1 8 et27 (by decide) (by decide) encI_len encI_one rfl _ _ rfl W2.heap.size _ (pre.map Int.ofNat) rfl (hownc.alloc _) wc.heap.size rfl (q : Int) (encI_cell (hnew.cell rfl)) (by simp [hpre]; omega) (by simp; omega) ?_; intro g' cap' w' hown' hb3 _ _)
            go_roundw
            case rel =>
              exact ⟨i + 1, dd, lf - q, pre ++ [q], by go_num, rfl, rfl, by omega, hddm, Hnx, by have := Hfd.out; omega, by simpa [hpre] using hown', Lib.hid (by rw [Hch.out, Hchg.out]; simp), Lib.hid (by simp [hpre]), (hbc.alloc hszc _).trans hb3⟩
            case measure => simp [intOf]; omega
          · have hfd : ¬ t.row (i + 1) dd = lf - q := by
              have := Hfit.out q (by omega) (by have := HN.out.1; omega)
              unfold Tl.fits at this
              rw [hp, hdd] at this
              simpa using this
            have hrb := Tl.row_bd Hok.out (i + 1) dd
            generalize t.row (i + 1) dd = y at *
            have e2 : ¬ y = lf - (q : Int) := hfd
            go_wp2
            go_roundw
            case rel => exact ⟨q - 1, int_congr (by omega), by omega, by omega, trivial⟩
            case measure => simp [intOf]; omega
    · obtain rfl : i = m := by omega
      have hpre : t.chg i most left = pre := by rw [Hch.out, Nat.sub_self]; simp [Tl.chg]
      have hbw3 := ext_trans hbw2 hb
      clear hA2 hB2 hX2 z0 z1 o0 g0 hR hG0
      go_wp2
      go_ret2
      exact ⟨_, rfl, FreshL.of_own hown encI_len (by have := hbw2.size; omega), hbw3⟩
end Go.Proofs.YtnjdlhhgnamigaaGreat

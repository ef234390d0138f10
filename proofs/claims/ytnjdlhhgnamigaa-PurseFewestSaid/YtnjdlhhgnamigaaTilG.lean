/- Walk: the reference's best way to give an amount. -/
import Derived.Test.YtnjdlhhgnamigaaTilC
import Derived.Test.YtnjdlhhgnamigaaTilF
namespace Go.Proofs.Ytnjdlhhgnamigaa
open Go.RowKit Go.Bs Go.Pu Go.Pl Go.Sort

set_option maxRecDepth 100000 in
set_option maxHeartbeats 4000000 in
theorem ChangeR_any (t : Tl) (hok : t.ok) (A B : Option Addr) (n c d most : Nat) (w : World) (hn : t.vals.length = n) (hmost : most ≤ 5000) (hA : Cells w A 1 encI t.vals) (hB : Cells w B 1 encI t.cnts) :
    Calls Try.prog 35 #[tlV A n c B n d, .int .i64 most] w fun e w' => ∃ v, e = .returned (.tuple #[v, .bool (!decide (t.row 0 most = 401))]) ∧ FreshL w w' 1 encI v ((if t.row 0 most = 401 then [] else t.chg n most (t.row 0 most)).map Int.ofNat) ∧ Below w.heap.size w w' := by
  have hb0 := ext_alloc w (.cells #[.slice A n c, .slice B n d] 62)
  have hX := Blk.new w 62 [.slice A n c, .slice B n d]
  have hA0 := hA.ext hb0
  have hB0 := hB.ext hb0
  have CF0 := fun W hA hB => Fewest_any t hok A B n c d 0 most W hn (Nat.zero_le _) hmost hA hB
  have CF1 := fun i am W (hi : i < n) ham hA hB => Fewest_any t hok A B n c d (i + 1) am W hn hi ham hA hB
  unfold tlV at *
  rw [show ((0 : Nat) : Int) = 0 from rfl] at CF0
  simp only [Int.natCast_add, Int.natCast_one] at CF1
  have CF0 := Lib.hid CF0
  have CF1 := Lib.hid CF1
  have hn8 : 1 ≤ n ∧ n ≤ 8 := by have := hok.len; omega
  have hrb := Tl.row_bd hok 0 most
  have Hok := Lib.hid hok
  have Hn := Lib.hid hn
  clear hA hB hok hn
  generalize hbq : (!decide (t.row 0 most = 401)) = bq
  generalize hlq : (if t.row 0 most = 401 then [] else t.chg n most (t.row 0 most)) = lq
  have Hbq := Lib.hid hbq
  have Hlq := Lib.hid hlq
  clear hbq hlq
  go_enter Try.func35, Try.ntmps35
  go_upto_region 1 with fail
  change Blk (w.alloc (.cells #[.slice A n c, .slice B n d] 62)) _ _ _ at hX
  generalize w.alloc (.cells #[.slice A n c, .slice B n d] 62) = W0 at *
  have x0 : W0.cell? ⟨w.heap.size, 0, none⟩ = _ := hX.cell rfl
  have x1 : W0.cell? ⟨w.heap.size, 1, none⟩ = _ := hX.cell rfl
  go_wp2_with fail
  refine (CF0.out _ hA0 hB0).mono ?_; rintro e W2 ⟨G0, rfl, -, hG0, hb2⟩
  have hbw2 := ext_trans hb0 hb2
  have hX2 := hX.ext hb2
  have hA2 := hA0.ext hb2
  have hB2 := hB0.ext hb2
  clear hb0 hb2 hX hA0 hB0 x0 x1 CF0
  have g0 : W2.cell? ⟨G0, most, none⟩ = some (.int .i64 (encF (t.row 0 most))) := hG0.cell (tab_get _ (by omega))
  have hmN : (most : Int) < (most : Int) + 1 := by omega
  clear hG0
  have he : encF (t.row 0 most) = if t.row 0 most = 401 then -1 else t.row 0 most := rfl
  generalize hl : t.row 0 most = left at *
  by_cases h401 : left = 401
  · rw [he, if_pos h401] at g0
    obtain rfl : false = bq := by rw [← Hbq.out]; simp [h401]
    obtain rfl : [] = lq := by rw [← Hlq.out, if_pos h401]
    clear he hl
    go_wp2
    go_ret2
    exact ⟨_, rfl, FreshL.nil _ _ _ _, hbw2⟩
  rw [he, if_neg h401] at g0
  obtain rfl : true = bq := by rw [← Hbq.out]; simp [h401]
  obtain rfl : t.chg n most left = lq := by rw [← Hlq.out, if_neg h401]
  have Hl := Lib.hid hl
  have hleft : 0 ≤ left ∧ left ≤ 400 := by omega
  have hl0 : ¬ left < 0 := by omega
  clear he hl h401 Hbq Hlq
  go_wp2
  clear g0 hl0
  go_loopw [1, 6, 7, 8, 9, 10] (fun a l v x _ _ wr => ∃ (i am : Nat) (lf : Int) (pre : List Nat), x = .int .i64 i ∧ a = .int .i64 am ∧ l = .int .i64 lf ∧ i ≤ n ∧ am ≤ most ∧ Hid (t.row i am = lf) ∧ (0 ≤ lf ∧ lf ≤ 400) ∧ OwnL wr W2.heap.size 3 1 encI v (pre.map Int.ofNat) ∧ Hid (t.chg n most left = pre ++ t.chg (n - i) am lf) ∧ Hid (pre.length = i) ∧ Below W2.heap.size W2 wr) (fun _ _ _ x _ _ _ => n - (intOf x).toNat)
  case atStart => exact ⟨0, most, left, [], rfl, rfl, rfl, by omega, Nat.le_refl _, Hl, hleft, OwnL.nil, Lib.hid (by simp), Lib.hid rfl, Below.refl _ _⟩
  case round =>
    obtain ⟨i, am, lf, pre, rfl, rfl, rfl, hi, ham, Hrow, hlf, hown, Hch, Hpre, hb⟩ := hrel
    have hXr := hX2.ext hb
    have x0 : wr.cell? ⟨w.heap.size, 0, none⟩ = _ := hXr.cell rfl
    have x1 : wr.cell? ⟨w.heap.size, 1, none⟩ = _ := hXr.cell rfl
    by_cases hlt : i < n
    · have hlt' : (i : Int) < (n : Int) := by omega
      have hit : i < t.vals.length := by rw [Hn.out]; exact hlt
      have hic : i < t.cnts.length := by rw [Hok.out.eq]; exact hit
      have hvb := Hok.out.v_bd hit
      have hcb := Hok.out.c_bd hit
      have ht := Tl.take_spec Hok.out (a := am) hit (by rw [Hrow.out]; omega)
      rw [Hrow.out] at ht
      have hd := downN_spec (t.fits i am lf) (min (t.c i) (am / t.v i)) (t.take i am lf) (by
        have := (Nat.le_div_iff_mul_le (k := t.v i) (by omega)).2 ht.2.1
        omega) (by unfold Tl.fits; rw [ht.2.2]; simp)
      have hd3 := hd.2.1
      have hd4 := hd.2.2.2
      rw [show downN (t.fits i am lf) (min (t.c i) (am / t.v i)) = t.take i am lf from rfl] at hd3 hd4
      have hchg : t.chg (n - i) am lf = t.take i am lf :: t.chg (n - (i + 1)) (am - t.take i am lf * t.v i) (lf - t.take i am lf) := by
        rw [show n - i = (n - (i + 1)) + 1 by omega]
        show t.take (t.vals.length - 1 - (n - (i + 1))) am lf :: t.chg (n - (i + 1)) (am - t.take (t.vals.length - 1 - (n - (i + 1))) am lf * t.v (t.vals.length - 1 - (n - (i + 1)))) (lf - t.take (t.vals.length - 1 - (n - (i + 1))) am lf) = _
        rw [show t.vals.length - 1 - (n - (i + 1)) = i by rw [Hn.out]; omega]
      have Hchg := Lib.hid hchg
      have Hfit := Lib.hid (fun q (h1 : t.take i am lf < q) (h2 : q ≤ t.c i) (h3 : q * t.v i ≤ am) => hd4 q h1 (by
        have := (Nat.le_div_iff_mul_le (k := t.v i) (by omega)).2 h3
        omega))
      have Href := Lib.hid (fun q (h3 : q * t.v i ≤ am) => by
        have := Tl.fits_ref Hok.out (i := i) (a := am) hit (by rw [Hrow.out]; omega) (n := q) h3
        rw [Hrow.out] at this
        exact this)
      have Ht := Lib.hid ht.2.2
      have ht1 := ht.1
      have ht2 := ht.2.1
      clear hchg hd4 hd3 hd ht
      generalize hT : t.take i am lf = T at *
      clear hT
      have HTf := Lib.hid (show t.fits i am lf T = true by unfold Tl.fits; rw [Ht.out]; simp)
      have hAr := hA2.ext hb
      have hBr := hB2.ext hb
      go_wp2_with fail
      refine (CF1.out i am _ hlt (by omega) hAr hBr).mono ?_; rintro e W3 ⟨GF, rfl, -, hGF, hb3⟩
      have hown3 := hown.ext hb3
      have hbb := ext_trans hb hb3
      have hX3 := hXr.ext hb3
      obtain ⟨bA, offA, rfl, hltA, cA⟩ := hA2.at1 hit rfl
      obtain ⟨bB, offB, rfl, hltB, cB⟩ := hB2.at1 hic rfl
      rw [Hok.out.v_eq hit] at cA
      rw [Hok.out.c_eq hit] at cB
      have cA := cell_ext cA hbb
      have cB := cell_ext cB hbb
      have hXl := hX2.lt
      have Hbd := Lib.hid (fun a => encF_bd Hok.out (i + 1) a)
      clear hXr hAr hBr hb hb3 hown x0 x1 hit hic CF1
      have x0 : W3.cell? ⟨w.heap.size, 0, none⟩ = _ := hX3.cell rfl
      have x1 : W3.cell? ⟨w.heap.size, 1, none⟩ = _ := hX3.cell rfl
      go_wp2
      go_loopw [10] (fun x wr => ∃ q : Nat, x = .int .i64 q ∧ T ≤ q ∧ q ≤ t.c i ∧ W3 = wr) (fun x _ => (intOf x).toNat)
      case atStart => exact ⟨t.c i, rfl, ht1, Nat.le_refl _, rfl⟩
      case round =>
        obtain ⟨q, rfl, hq1, hq2, rfl⟩ := hrel
        have hfr := Href.out q
        have hno := Hfit.out q
        have htq := Ht.out
        generalize hp : q * t.v i = p at *
        have hpi : (q : Int) * (t.v i : Int) = (p : Int) := by rw [← hp]; simp
        have hpb : p ≤ 50 * 1000 := by rw [← hp]; exact Nat.mul_le_mul (by omega) (by omega)
        by_cases hpa : p ≤ am
        · have hpa' : ¬ (am : Int) < (p : Int) := by omega
          have hfr := hfr hpa
          generalize hdd : am - p = dd at *
          have hdi : (am : Int) - (p : Int) = (dd : Int) := by omega
          have hddN : (dd : Int) < (am : Int) + 1 := by omega
          have g0 : W3.cell? ⟨GF, dd, none⟩ = some (.int .i64 (encF (t.row (i + 1) dd))) := hGF.cell (tab_get _ (by omega))
          have hyb := Hbd.out dd
          by_cases hqT : q = T
          · obtain rfl : q = T := hqT
            have hfd : t.row (i + 1) dd = lf - q := by rw [hp, hdd] at htq; exact htq
            have hy : encF (t.row (i + 1) dd) = lf - (q : Int) := hfr.2 HTf.out
            rw [hy] at g0
            rw [hp, hdd] at Hchg
            have hddm : dd ≤ most := by omega
            have hrb2 := Tl.row_bd Hok.out (i + 1) dd
            have hpre := Hpre.out
            have hnew := Blk.new W3 3 [.int .i64 (q : Int)]
            have hszc := hbb.size
            have Hnx := Lib.hid hfd
            have hlq : 0 ≤ lf - (q : Int) := by omega
            have e2 : (lf - (q : Int) == lf - (q : Int)) = true := by simp
            have hq50 : (q : Int) ≤ 50 := by omega
            clear hfd hdd hp hfr hno htq hy hyb
            go_wp2_with (at_builtin; refine app1 encI 27 3 1 8 et27 (by decide) (by decide) encI_len encI_one rfl _ _ rfl W2.heap.size _ (pre.map Int.ofNat) rfl (hown3.alloc _) W3.heap.size rfl (q : Int) (encI_cell (hnew.cell rfl)) (by simp [hpre]; omega) (by simp; omega) ?_; intro g' cap' w' hown' hb4 _ _; have x0' : w'.cell? ⟨w.heap.size, 0, none⟩ = _ := (World.cell?_of_block (hb4.block _ hXl)).trans (cell_ext x0 (ext_alloc _ _)); have cA' : w'.cell? ⟨bA, offA + i, none⟩ = _ := (World.cell?_of_block (hb4.block _ hltA)).trans (cell_ext cA (ext_alloc _ _)))
            go_roundw
            case rel =>
              exact ⟨i + 1, dd, lf - q, pre ++ [q], by go_num, rfl, rfl, by omega, hddm, Hnx, by omega, by simpa [hpre] using hown', Lib.hid (by rw [Hch.out, Hchg.out]; simp), Lib.hid (by simp [hpre]), (hbb.alloc hszc _).trans hb4⟩
            case measure => simp [intOf]; omega
          · have hno := hno (by omega) hq2 hpa
            have hy : ¬ encF (t.row (i + 1) dd) = lf - (q : Int) := fun h => by have := hfr.1 h; rw [hno] at this; cases this
            generalize encF (t.row (i + 1) dd) = y at *
            clear hfr hno hdd hp htq
            go_wp2
            go_roundw
            case rel => exact ⟨q - 1, int_congr (by omega), by omega, by omega, trivial⟩
            case measure => simp [intOf]; omega
        · have hpa' : (am : Int) < (p : Int) := by omega
          have hqT : ¬ q = T := fun h => by rw [h] at hp; omega
          clear hfr hno htq hp
          go_wp2
          go_roundw
          case rel => exact ⟨q - 1, int_congr (by omega), by omega, by omega, trivial⟩
          case measure => simp [intOf]; omega
    · obtain rfl : i = n := by omega
      have hpre : t.chg i most left = pre := by rw [Hch.out, Nat.sub_self]; simp [Tl.chg]
      have hbw3 := ext_trans hbw2 hb
      clear hA2 hB2 hX2 x1
      go_wp2
      go_ret2
      exact ⟨_, rfl, by rw [hpre]; exact FreshL.of_own hown encI_len (by have := hbw2.size; omega), hbw3⟩
end Go.Proofs.Ytnjdlhhgnamigaa

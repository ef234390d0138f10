/- Walk: few, CheckYard, the reference's Stand, and the law YardStands. -/
import Derived.Deep.DeepCutAuto
import Derived.Maps.RangeWalk
import Derived.Test.YtopfhinnamhoiaaStdB
namespace Go.Proofs.Ytopfhinnamhoiaa
open Go.RowKit Go.Bs Go.Yd Go.Pl Go.Sort

def FewPost (n1 n2 n3 : Nat) (w : World) (e : Ending) (w' : World) : Prop := ∃ b, e = .returned (.bool b) ∧ (b = true → n1 ≤ 10 ∧ n2 ≤ 10 ∧ n3 ≤ 25) ∧ Below w.heap.size w w'
theorem few_any (A1 A2 A3 : Option Addr) (n1 n2 n3 c1 c2 c3 : Nat) (w : World) :
    Calls Try.prog 40 #[.agg #[.slice A1 n1 c1, .slice A2 n2 c2, .slice A3 n3 c3]] w (FewPost n1 n2 n3 w) := by
  have hb0 := ext_alloc w (.cells #[.slice A1 n1 c1, .slice A2 n2 c2, .slice A3 n3 c3] 57)
  by_cases e2 : (n2 : Int) ≤ 10
  · by_cases e3 : (n3 : Int) ≤ 25
    · by_cases e1 : (n1 : Int) ≤ 6
      · go_enter Try.func40, Try.ntmps40
        go_wp2
        go_ret
        exact ⟨_, rfl, (fun _ => by omega), hb0⟩
      · by_cases e4 : (8 : Int) < (n1 : Int)
        · by_cases e5 : (n1 : Int) ≤ 10
          · go_enter Try.func40, Try.ntmps40
            go_wp2
            go_ret
            exact ⟨_, rfl, (fun _ => by omega), hb0⟩
          · go_enter Try.func40, Try.ntmps40
            go_wp2
            go_ret
            exact ⟨false, rfl, (fun h => by cases h), hb0⟩
        · go_enter Try.func40, Try.ntmps40
          go_wp2
          go_ret
          exact ⟨false, rfl, (fun h => by cases h), hb0⟩
    · by_cases e1 : (n1 : Int) ≤ 6
      · go_enter Try.func40, Try.ntmps40
        go_wp2
        go_ret
        exact ⟨false, rfl, (fun h => by cases h), hb0⟩
      · by_cases e4 : (8 : Int) < (n1 : Int)
        · by_cases e5 : (n1 : Int) ≤ 10
          · go_enter Try.func40, Try.ntmps40
            go_wp2
            go_ret
            exact ⟨false, rfl, (fun h => by cases h), hb0⟩
          · go_enter Try.func40, Try.ntmps40
            go_wp2
            go_ret
            exact ⟨false, rfl, (fun h => by cases h), hb0⟩
        · go_enter Try.func40, Try.ntmps40
          go_wp2
          go_ret
          exact ⟨false, rfl, (fun h => by cases h), hb0⟩
  · by_cases e1 : (n1 : Int) ≤ 6
    · go_enter Try.func40, Try.ntmps40
      go_wp2
      go_ret
      exact ⟨false, rfl, (fun h => by cases h), hb0⟩
    · by_cases e4 : (8 : Int) < (n1 : Int)
      · by_cases e5 : (n1 : Int) ≤ 10
        · go_enter Try.func40, Try.ntmps40
          go_wp2
          go_ret
          exact ⟨false, rfl, (fun h => by cases h), hb0⟩
        · go_enter Try.func40, Try.ntmps40
          go_wp2
          go_ret
          exact ⟨false, rfl, (fun h => by cases h), hb0⟩
      · go_enter Try.func40, Try.ntmps40
        go_wp2
        go_ret
        exact ⟨false, rfl, (fun h => by cases h), hb0⟩

theorem CheckYard_any (y : Yrd) (A1 A2 A3 : Option Addr) (n1 n2 n3 c1 c2 c3 : Nat) (w : World) (h1 : y.boxes.length = n1) (h2 : y.needs.length = n2) (h3 : y.foes.length = n3) (m1 : n1 ≤ 9223372036854775807) (m2 : n2 ≤ 9223372036854775807) (m3 : n3 ≤ 9223372036854775807) (hd : YdAt w y A1 A2 A3) :
    Calls Try.prog 41 #[.agg #[.slice A1 n1 c1, .slice A2 n2 c2, .slice A3 n3 c3]] w fun e w' => e = .returned (.int .i64 (if Yrd.okB y then 0 else 1)) ∧ Below w.heap.size w w' := by
  have hb0 := ext_alloc w (.cells #[.slice A1 n1 c1, .slice A2 n2 c2, .slice A3 n3 c3] 61)
  have HV := Lib.hid (yvalid_any y A1 A2 A3 n1 n2 n3 c1 c2 c3 _ h1 h2 h3 m1 m2 m3 (hd.ext hb0))
  cases hv : Yrd.okB y
  · rw [hv] at HV
    clear hv
    go_enter Try.func41, Try.ntmps41
    go_wp2_with fail
    refine HV.out.mono ?_; rintro e w1 ⟨rfl, hb1⟩
    go_wp2
    go_ret
    exact ⟨rfl, ext_trans hb0 hb1⟩
  · rw [hv] at HV
    clear hv
    go_enter Try.func41, Try.ntmps41
    go_wp2_with fail
    refine HV.out.mono ?_; rintro e w1 ⟨rfl, hb1⟩
    go_wp2
    go_ret
    exact ⟨rfl, ext_trans hb0 hb1⟩

theorem StandRef_any (y : Yrd) (hok : Yrd.okB y = true) (A1 A2 A3 : Option Addr) (n1 n2 n3 c1 c2 c3 : Nat) (w : World) (h1 : y.boxes.length = n1) (h2 : y.needs.length = n2) (h3 : y.foes.length = n3) (hd : YdAt w y A1 A2 A3) :
    Calls Try.prog 43 #[.agg #[.slice A1 n1 c1, .slice A2 n2 c2, .slice A3 n3 c3]] w (GrPost (Yrd.stand y) w) := by
  have hb0 := ext_alloc w (.cells #[.slice A1 n1 c1, .slice A2 n2 c2, .slice A3 n3 c3] 57)
  have HG := Lib.hid (grown_any y hok A1 A2 A3 n1 n2 n3 c1 c2 c3 h1 h2 h3 n2 [] none 0 _ (by simp) (hd.ext hb0) Cells.nil)
  have hg := grownG_stand y
  rw [h2] at hg
  rw [hg] at HG
  clear hg
  generalize Yrd.stand y = R at *
  go_enter Try.func43, Try.ntmps43
  go_wp2_with fail
  refine HG.out.mono ?_; rintro e w1 ⟨A, c, rfl, hC, hb1⟩
  go_wp2
  go_ret2
  exact ⟨A, c, rfl, hC, ext_trans hb0 hb1⟩

theorem StandR_cases {y : Yrd} (hok : Yrd.okB y = true) : (∃ l, StandR y = (l, 0) ∧ Yrd.stand y = some l) ∨ (StandR y = ([], 7) ∧ Yrd.stand y = none) := by
  unfold StandR
  rw [hok, if_pos rfl]
  cases h : Yrd.stand y with
  | none => exact .inr ⟨rfl, rfl⟩
  | some l => exact .inl ⟨l, rfl, rfl⟩

set_option maxRecDepth 100000 in
set_option maxHeartbeats 4000000 in
theorem stands_law (y : Yrd) (A1 A2 A3 V : Option Addr) (n1 n2 n3 c1 c2 c3 m cm : Nat) (pl : List Int) (w : World) (h1 : y.boxes.length = n1) (h2 : y.needs.length = n2) (h3 : y.foes.length = n3) (hm : pl.length = m) (hd : YdAt w y A1 A2 A3) (hv : Cells w V 1 encI pl) :
    Calls Try.prog 8 #[.agg #[.slice A1 n1 c1, .slice A2 n2 c2, .slice A3 n3 c3], .slice V m cm] w fun e w' => e = .returned (.bool true) ∧ Below w.heap.size w w' := by
  have hb0 := ext_alloc w (.cells #[.slice A1 n1 c1, .slice A2 n2 c2, .slice A3 n3 c3] 57)
  have hB := Blk.new w 57 [.slice A1 n1 c1, .slice A2 n2 c2, .slice A3 n3 c3]
  have Hm := Lib.hid hm
  go_enter Try.func8, Try.ntmps8
  go_wp2_with fail
  refine (few_any A1 A2 A3 n1 n2 n3 c1 c2 c3 _).mono ?_; rintro e w1 ⟨b, rfl, hfew, hb1⟩
  have hb2 := ext_trans hb0 hb1
  have hB2 := hB.ext hb1
  clear hb0 hb1 hB
  cases b
  · clear hfew
    go_wp2_with fail
    refine (wakes_any _).mono ?_; rintro e w2 ⟨rfl, hb3⟩
    go_wp2
    go_ret
    exact ⟨rfl, ext_trans hb2 hb3⟩
  by_cases h12 : (12 : Int) < (m : Int)
  · clear hfew
    go_wp2_with fail
    refine (wakes_any _).mono ?_; rintro e w2 ⟨rfl, hb3⟩
    go_wp2
    go_ret
    exact ⟨rfl, ext_trans hb2 hb3⟩
  obtain ⟨f1, f2, f3⟩ := hfew rfl
  clear hfew
  have x0 : w1.cell? ⟨w.heap.size, 0, none⟩ = _ := hB2.cell rfl
  have x1 : w1.cell? ⟨w.heap.size, 1, none⟩ = _ := hB2.cell rfl
  have x2 : w1.cell? ⟨w.heap.size, 2, none⟩ = _ := hB2.cell rfl
  go_wp2_with fail
  refine (Yard_any y A1 A2 A3 n1 n2 n3 c1 c2 c3 w1 h1 h2 h3 (by omega) (by omega) (by omega) (hd.ext hb2)).mono ?_
  rintro e w2 ⟨B1, B2, B3, d1, d2, d3, rfl, hY, hcs, hb3⟩
  have hb4 := ext_trans hb2 hb3
  have hB4 := hB2.ext hb3
  clear hb2 hb3 hB2 x0 x1 x2
  go_wp2_with fail
  refine (Stand_any y B1 B2 B3 n1 n2 n3 d1 d2 d3 w2 h1 h2 h3 (by omega) (by omega) (by omega) hcs.2.1 hY).mono ?_
  rintro e w3 ⟨v, rfl, hv3, hb5⟩
  have hb6 := ext_trans hb4 hb5
  have hB6 := hB4.ext hb5
  have x0 : w3.cell? ⟨w.heap.size, 0, none⟩ = _ := hB6.cell rfl
  have x1 : w3.cell? ⟨w.heap.size, 1, none⟩ = _ := hB6.cell rfl
  have x2 : w3.cell? ⟨w.heap.size, 2, none⟩ = _ := hB6.cell rfl
  obtain ⟨r, er, hR⟩ : ∃ r er, StandR y = (r, er) := ⟨_, _, rfl⟩
  rw [hR] at hv3 ⊢
  have HR := Lib.hid hR
  obtain ⟨Ar, cr, rfl, -, -, hCr, -⟩ := hv3
  simp only
  clear hb4 hb5 hB4 hY hcs hR
  go_wp2_with fail
  refine (Yard_any y A1 A2 A3 n1 n2 n3 c1 c2 c3 w3 h1 h2 h3 (by omega) (by omega) (by omega) (hd.ext hb6)).mono ?_
  rintro e w4 ⟨B1, B2, B3, d1, d2, d3, rfl, hY, hcs, hb7⟩
  have hb8 := ext_trans hb6 hb7
  have hB8 := hB6.ext hb7
  have hCr8 := hCr.ext hb7
  clear hb6 hb7 hB6 hCr x0 x1 x2
  go_wp2_with fail
  refine (list_any V m cm pl w4 hm (by omega) (hv.ext hb8)).mono ?_
  rintro e w5 ⟨v, rfl, hv5, hb9⟩
  obtain ⟨A5, c5, rfl, hc5, -, hC5, -⟩ := hv5
  rw [hm] at hc5 ⊢
  have hb10 := ext_trans hb8 hb9
  have hB10 := hB8.ext hb9
  have hCr10 := hCr8.ext hb9
  have hY10 := hY.ext hb9
  clear hb8 hb9 hB8 hCr8 hY
  go_wp2_with fail
  refine (Stands_any y B1 B2 B3 A5 n1 n2 n3 d1 d2 d3 m c5 pl w5 h1 h2 h3 hm (by omega) (by omega) (by omega) (by omega) hcs.2.1 hc5 hY10 hC5).mono ?_
  rintro e w6 ⟨rfl, hb11⟩
  have hb12 := ext_trans hb10 hb11
  have hB12 := hB10.ext hb11
  have hCr12 := hCr10.ext hb11
  have x0 : w6.cell? ⟨w.heap.size, 0, none⟩ = _ := hB12.cell rfl
  have x1 : w6.cell? ⟨w.heap.size, 1, none⟩ = _ := hB12.cell rfl
  have x2 : w6.cell? ⟨w.heap.size, 2, none⟩ = _ := hB12.cell rfl
  clear hb10 hb11 hB10 hCr10 hY10 hC5 hcs hc5
  have hSB : StandsB y pl = (Yrd.okB y && (decide (m = n2) && arrP y (foeL y.foes) n1 [] pl)) := by unfold StandsB; rw [h1, h2, hm]
  generalize StandsB y pl = sp at *
  have HSB := Lib.hid hSB
  clear hSB
  go_wp2_with fail
  refine (RightY_any y A1 A2 A3 n1 n2 n3 c1 c2 c3 w6 h1 h2 h3 (by omega) (by omega) (by omega) (hd.ext hb12)).mono ?_
  rintro e w7 ⟨rfl, hb13⟩
  have hb14 := ext_trans hb12 hb13
  have hB14 := hB12.ext hb13
  have hCr14 := hCr12.ext hb13
  have y0 : w7.cell? ⟨w.heap.size, 0, none⟩ = _ := hB14.cell rfl
  have y1 : w7.cell? ⟨w.heap.size, 1, none⟩ = _ := hB14.cell rfl
  have y2 : w7.cell? ⟨w.heap.size, 2, none⟩ = _ := hB14.cell rfl
  clear hb12 hb13 hB12 hCr12 x0 x1 x2
  cases hok : Yrd.okB y
  · have hr : StandR y = ([], 1) := by unfold StandR; rw [hok]; rfl
    have hs : sp = false := by rw [HSB.out, hok]; rfl
    rw [HR.out] at hr
    simp only [Prod.mk.injEq] at hr
    obtain ⟨rfl, rfl⟩ := hr
    subst hs
    have Hok := Lib.hid hok
    clear hok HSB HR
    simp only [List.length_nil]
    go_wp2_with fail
    refine (Yard_any y A1 A2 A3 n1 n2 n3 c1 c2 c3 w7 h1 h2 h3 (by omega) (by omega) (by omega) (hd.ext hb14)).mono ?_
    rintro e w8 ⟨B1, B2, B3, d1, d2, d3, rfl, hY, hcs, hb15⟩
    have hb16 := ext_trans hb14 hb15
    clear hb14 hb15 hB14 y0 y1 y2
    go_wp2_with fail
    refine (CheckYard_any y B1 B2 B3 n1 n2 n3 d1 d2 d3 w8 h1 h2 h3 (by omega) (by omega) (by omega) hY).mono ?_
    rintro e w9 ⟨rfl, hb17⟩
    rw [Hok.out]
    simp only [Bool.false_eq_true, if_false]
    have hb18 := ext_trans hb16 hb17
    go_wp2_with fail
    refine (wakes_any _).mono ?_; rintro e wa ⟨rfl, hb19⟩
    go_wp2
    go_ret
    exact ⟨rfl, ext_trans hb18 hb19⟩
  · have hRc := StandR_cases hok
    rw [HR.out] at hRc
    have hs : sp = (decide (m = n2) && arrP y (foeL y.foes) n1 [] pl) := by rw [HSB.out, hok]; rfl
    have Hok := Lib.hid hok
    have Hs := Lib.hid hs
    have HRc := Lib.hid hRc
    clear hok HSB HR hs hRc
    go_upto_region 7 with fail
    go_cut [71] (fun z W' => z = .bool false ∧ Below w7.heap.size w7 W')
    case first =>
      go_wp2_with fail
      refine (Yard_any y A1 A2 A3 n1 n2 n3 c1 c2 c3 w7 h1 h2 h3 (by omega) (by omega) (by omega) (hd.ext hb14)).mono ?_
      rintro e w8 ⟨B1, B2, B3, d1, d2, d3, rfl, hY, hcs, hb15⟩
      have hb16 := ext_trans hb14 hb15
      have hB16 := hB14.ext hb15
      have hCr16 := hCr14.ext hb15
      clear hb14 hB14 y0 y1 y2 hCr14
      go_wp2_with fail
      refine (CheckYard_any y B1 B2 B3 n1 n2 n3 d1 d2 d3 w8 h1 h2 h3 (by omega) (by omega) (by omega) hY).mono ?_
      rintro e w9 ⟨rfl, hb17⟩
      rw [Hok.out, if_pos rfl]
      have hb189 := ext_trans hb15 hb17
      have hb18 := ext_trans hb16 hb17
      have hB18 := hB16.ext hb17
      have hCr18 := hCr16.ext hb17
      have y0 : w9.cell? ⟨w.heap.size, 0, none⟩ = _ := hB18.cell rfl
      have y1 : w9.cell? ⟨w.heap.size, 1, none⟩ = _ := hB18.cell rfl
      have y2 : w9.cell? ⟨w.heap.size, 2, none⟩ = _ := hB18.cell rfl
      clear hb16 hb17 hB16 hCr16 hY hcs hb15
      by_cases hmn : m = n2
      · subst hmn
        have hs : sp = arrP y (foeL y.foes) n1 [] pl := by rw [Hs.out, decide_eq_true rfl]; rfl
        have HS2 := Lib.hid hs
        clear hs
        go_wp2_with fail
        refine (StandsR_any y Hok.out A1 A2 A3 V n1 m n3 c1 c2 c3 m cm pl w9 h1 h2 h3 hm (Nat.le_refl _) (hd.ext hb18) (hv.ext hb18)).mono ?_
        rintro e wa ⟨rfl, hba⟩
        rw [← HS2.out]
        go_wp2
        go_meet
        case rel => exact ⟨by simp, ext_trans hb189 hba⟩
      · have hs : sp = false := by rw [Hs.out, decide_eq_false hmn]; rfl
        subst hs
        have hmn' : ((m : Int) == (n2 : Int)) = false := by simp; omega
        clear hmn
        go_wp2
        go_meet
        case rel => exact ⟨rfl, hb189⟩
    case rest =>
      obtain ⟨rfl, hba⟩ := hcut
      have hb20 := ext_trans hb14 hba
      have hB20 := hB14.ext hba
      have hCr20 := hCr14.ext hba
      have z0 : wc.cell? ⟨w.heap.size, 0, none⟩ = _ := hB20.cell rfl
      have z1 : wc.cell? ⟨w.heap.size, 1, none⟩ = _ := hB20.cell rfl
      have z2 : wc.cell? ⟨w.heap.size, 2, none⟩ = _ := hB20.cell rfl
      clear hb14 hba hB14 hCr14 y0 y1 y2
      go_wp2_with fail
      refine (StandRef_any y Hok.out A1 A2 A3 n1 n2 n3 c1 c2 c3 wc h1 h2 h3 (hd.ext hb20)).mono ?_
      rintro e wd ⟨Ag, cg, rfl, hCg, hbd⟩
      have hb22 := ext_trans hb20 hbd
      have hCr22 := hCr20.ext hbd
      clear hb20 hbd hB20 hCr20 z0 z1 z2
      rcases HRc.out with ⟨l, hl, hst⟩ | ⟨hl, hst⟩
      · simp only [Prod.mk.injEq] at hl
        obtain ⟨rfl, rfl⟩ := hl
        rw [hst] at hCg ⊢
        simp only [Option.getD_some, Option.isSome_some] at hCg ⊢
        have hlen : r.length = n2 := by
          obtain ⟨q, e1, e2, -⟩ := standR_sound _ _ _ hst
          rw [e1, List.nil_append, e2, h2]
        clear hst HRc
        rw [hlen]
        go_wp2_with fail
        refine (ints_any Ar Ag n2 n2 cr cg r r wd hlen hlen (by omega) (by omega) hCr22 hCg).mono ?_; rintro e we ⟨rfl, hbe⟩
        rw [decide_eq_true (rfl : r = r)]
        go_wp2_with fail
        refine (wakes_any _).mono ?_; rintro e wf ⟨rfl, hbf⟩
        go_wp2
        go_ret
        exact ⟨rfl, ext_trans (ext_trans hb22 hbe) hbf⟩
      · simp only [Prod.mk.injEq] at hl
        obtain ⟨rfl, rfl⟩ := hl
        rw [hst]
        simp only [Option.isSome_none, List.length_nil]
        clear hst HRc
        go_wp2_with fail
        refine (wakes_any _).mono ?_; rintro e wf ⟨rfl, hbf⟩
        go_wp2
        go_ret
        exact ⟨rfl, ext_trans hb22 hbf⟩
end Go.Proofs.Ytopfhinnamhoiaa

/- Walk: the law YardFoes. -/
import Derived.Deep.DeepCutAuto
import Derived.Test.YtopfhinnamhoiaaYardR
namespace Go.Proofs.Ytopfhinnamhoiaa
open Go.RowKit Go.Bs Go.Yd Go.Pl Go.Sort

theorem StandR_ok {y : Yrd} (hok : Yrd.okB y = true) : (∃ l, StandR y = (l, 0) ∧ StandsB y l = true ∧ Arr y l) ∨ (StandR y = ([], 7) ∧ ∀ pl, StandsB y pl = false) := by
  unfold StandR
  rw [hok, if_pos rfl]
  cases h : Yrd.stand y with
  | none => exact .inr ⟨rfl, stand_none h⟩
  | some l => exact .inl ⟨l, rfl, stand_stands hok h, arr_of hok (stand_stands hok h)⟩

set_option maxRecDepth 100000 in
set_option maxHeartbeats 8000000 in
theorem foes_law (y : Yrd) (A1 A2 A3 V : Option Addr) (n1 n2 n3 c1 c2 c3 m cm : Nat) (pl : List Int) (w : World) (h1 : y.boxes.length = n1) (h2 : y.needs.length = n2) (h3 : y.foes.length = n3) (hm : pl.length = m) (m1 : n1 ≤ 9223372036854775807) (m2 : n2 ≤ 9223372036854775807) (m3 : n3 ≤ 9223372036854775807) (mm : m ≤ 9223372036854775807) (hd : YdAt w y A1 A2 A3) (hv : Cells w V 1 encI pl) :
    Calls Try.prog 6 #[.agg #[.slice A1 n1 c1, .slice A2 n2 c2, .slice A3 n3 c3], .slice V m cm] w fun e w' => e = .returned (.bool true) ∧ Below w.heap.size w w' := by
  have hb0 := ext_alloc w (.cells #[.slice A1 n1 c1, .slice A2 n2 c2, .slice A3 n3 c3] 57)
  have hB := Blk.new w 57 [.slice A1 n1 c1, .slice A2 n2 c2, .slice A3 n3 c3]
  have HR := Lib.hid (RightY_any y A1 A2 A3 n1 n2 n3 c1 c2 c3 _ h1 h2 h3 m1 m2 m3 (hd.ext hb0))
  cases hok : Yrd.okB y
  · rw [hok] at HR
    clear hok hd hv
    go_enter Try.func6, Try.ntmps6
    go_wp2_with fail
    refine HR.out.mono ?_; rintro e w1 ⟨rfl, hb1⟩
    go_wp2_with fail
    refine (wakes_any _).mono ?_; rintro e w2 ⟨rfl, hb2⟩
    go_wp2
    go_ret
    exact ⟨rfl, ext_trans (ext_trans hb0 hb1) hb2⟩
  · rw [hok] at HR
    by_cases h12 : m ≤ 12
    · have h12' : (m : Int) ≤ 12 := by omega
      obtain ⟨k1, k2, k3, k4, k5, k6⟩ := Yrd.okB_spec hok
      rw [h1] at k1
      rw [h2] at k2
      rw [h3] at k3
      have HS := Lib.hid (StandR_ok hok)
      have K6 := Lib.hid k6
      have H1 := Lib.hid h1
      have H2 := Lib.hid h2
      have H3 := Lib.hid h3
      have Hm := Lib.hid hm
      clear hok k4 k5 k6
      go_enter Try.func6, Try.ntmps6
      go_wp2_with fail
      refine HR.out.mono ?_; rintro e w1 ⟨rfl, hb1⟩
      have hb2 := ext_trans hb0 hb1
      have hB2 := hB.ext hb1
      have x0 : w1.cell? ⟨w.heap.size, 0, none⟩ = _ := hB2.cell rfl
      have x1 : w1.cell? ⟨w.heap.size, 1, none⟩ = _ := hB2.cell rfl
      have x2 : w1.cell? ⟨w.heap.size, 2, none⟩ = _ := hB2.cell rfl
      clear hb0 hb1 hB HR
      go_wp2_with fail
      refine (Yard_any y A1 A2 A3 n1 n2 n3 c1 c2 c3 w1 h1 h2 h3 (by omega) (by omega) (by omega) (hd.ext hb2)).mono ?_
      rintro e w2 ⟨B1, B2, B3, d1, d2, d3, rfl, hY, hcs, hb3⟩
      have hb4 := ext_trans hb2 hb3
      have hB4 := hB2.ext hb3
      clear hb2 hb3 hB2 x0 x1 x2
      go_wp2_with fail
      refine (Stand_any y B1 B2 B3 n1 n2 n3 d1 d2 d3 w2 h1 h2 h3 (by omega) (by omega) (by omega) hcs.2.1 hY).mono ?_
      rintro e w3 ⟨v, rfl, hv3, hb5⟩
      have hb6 := ext_trans hb4 hb5
      have hB6 := hB4.ext hb5
      have x0 : w3.cell? ⟨w.heap.size, 0, none⟩ = _ := hB6.cell rfl
      have x1 : w3.cell? ⟨w.heap.size, 1, none⟩ = _ := hB6.cell rfl
      have x2 : w3.cell? ⟨w.heap.size, 2, none⟩ = _ := hB6.cell rfl
      obtain ⟨r, er, hR⟩ : ∃ r er, StandR y = (r, er) := ⟨_, _, rfl⟩
      rw [hR] at hv3 ⊢
      rw [hR] at HS
      obtain ⟨Ar, cr, rfl, -, -, hCr, -⟩ := hv3
      simp only
      clear hb4 hb5 hB4 hY hcs hR
      go_wp2_with fail
      refine (Yard_any y A1 A2 A3 n1 n2 n3 c1 c2 c3 w3 h1 h2 h3 (by omega) (by omega) (by omega) (hd.ext hb6)).mono ?_
      rintro e w4 ⟨B1, B2, B3, d1, d2, d3, rfl, hY, hcs, hb7⟩
      have hb8 := ext_trans hb6 hb7
      have hB8 := hB6.ext hb7
      have hCr8 := hCr.ext hb7
      clear hb6 hb7 hB6 hCr x0 x1 x2
      go_wp2_with fail
      refine (list_any V m cm pl w4 hm (by omega) (hv.ext hb8)).mono ?_
      rintro e w5 ⟨v, rfl, hv5, hb9⟩
      obtain ⟨A5, c5, rfl, hc5, -, hC5, -⟩ := hv5
      rw [hm] at hc5 ⊢
      have hb10 := ext_trans hb8 hb9
      have hB10 := hB8.ext hb9
      have hCr10 := hCr8.ext hb9
      have hY10 := hY.ext hb9
      clear hb8 hb9 hB8 hCr8 hY
      go_wp2_with fail
      refine (Stands_any y B1 B2 B3 A5 n1 n2 n3 d1 d2 d3 m c5 pl w5 h1 h2 h3 hm (by omega) (by omega) (by omega) (by omega) hcs.2.1 hc5 hY10 hC5).mono ?_
      rintro e w6 ⟨rfl, hb11⟩
      have hb12 := ext_trans hb10 hb11
      have hB12 := hB10.ext hb11
      have hCr12 := hCr10.ext hb11
      clear hb10 hb11 hB10 hCr10 hY10 hC5 hcs hc5
      rcases HS.out with ⟨l, hl, hst, harr⟩ | ⟨hl, hno⟩
      · simp only [Prod.mk.injEq] at hl
        obtain ⟨rfl, rfl⟩ := hl
        generalize StandsB y pl = sp
        have hlen : r.length = n2 := by rw [harr.len, H2.out]
        have Hlen := Lib.hid hlen
        have Hst := Lib.hid hst
        have Harr := Lib.hid harr
        rw [hlen]
        clear HS hst harr hlen
        have x0 : w6.cell? ⟨w.heap.size, 0, none⟩ = _ := hB12.cell rfl
        have x1 : w6.cell? ⟨w.heap.size, 1, none⟩ = _ := hB12.cell rfl
        have x2 : w6.cell? ⟨w.heap.size, 2, none⟩ = _ := hB12.cell rfl
        go_wp2_with fail
        refine (Yard_any y A1 A2 A3 n1 n2 n3 c1 c2 c3 w6 h1 h2 h3 (by omega) (by omega) (by omega) (hd.ext hb12)).mono ?_
        rintro e w7 ⟨B1, B2, B3, d1, d2, d3, rfl, hY, hcs, hb13⟩
        have hb14 := ext_trans hb12 hb13
        have hB14 := hB12.ext hb13
        have hCr14 := hCr12.ext hb13
        clear hb12 hb13 hB12 hCr12 x0 x1 x2
        go_wp2_with fail
        refine (list_any Ar n2 cr r w7 Hlen.out (by omega) hCr14).mono ?_
        rintro e w8 ⟨v, rfl, hv8, hb15⟩
        obtain ⟨A8, c8, rfl, hc8, -, hC8, -⟩ := hv8
        rw [Hlen.out] at hc8 ⊢
        have hb16 := ext_trans hb14 hb15
        have hB16 := hB14.ext hb15
        have hCr16 := hCr14.ext hb15
        have hY16 := hY.ext hb15
        clear hb14 hb15 hB14 hCr14 hY
        go_wp2_with fail
        refine (Stands_any y B1 B2 B3 A8 n1 n2 n3 d1 d2 d3 n2 c8 r w8 h1 h2 h3 Hlen.out (by omega) (by omega) (by omega) (by omega) hcs.2.1 hc8 hY16 hC8).mono ?_
        rintro e w9 ⟨rfl, hb17⟩
        rw [Hst.out]
        have hb18 := ext_trans hb16 hb17
        have hB18 := hB16.ext hb17
        have hCr18 := hCr16.ext hb17
        clear hb16 hb17 hB16 hCr16 hY16 hC8 hcs hc8
        go_wp2
        go_loopw [8] (fun x wr => ∃ k : Nat, x = .int .i64 k ∧ k ≤ n2 ∧ Below w9.heap.size w9 wr) (fun x _ => n2 - (intOf x).toNat)
        case atStart => exact ⟨0, rfl, by omega, Below.refl _ _⟩
        case round =>
          obtain ⟨k, rfl, hk, hb⟩ := hrel
          by_cases hlt : k < n2
          · have hlt' : (k : Int) < (n2 : Int) := by omega
            have hk0 : (0 : Int) ≤ (k : Int) := by omega
            have hkr : k < r.length := by rw [Hlen.out]; exact hlt
            obtain ⟨p, hp⟩ := Int.eq_ofNat_of_zero_le (Harr.out.box k hkr).1
            have hbx := (Harr.out.box k hkr).2
            have hrm := Harr.out.room k hkr
            rw [hp, H1.out] at hbx
            rw [hp, Int.toNat_natCast] at hrm
            have hp1 : p < n1 := by omega
            have hp0 : (0 : Int) ≤ (p : Int) := by omega
            have hbr := ext_trans hb18 hb
            have hC1 := (hd.b.ext hbr)
            obtain ⟨br, or, rfl, -, e0⟩ := (hCr18.ext hb).at1 hkr rfl
            obtain ⟨bb, ob, rfl, -, e1⟩ := (hd.b.ext hbr).at1 (k := p) (by rw [H1.out]; exact hp1) rfl
            obtain ⟨bn, on, rfl, -, e2⟩ := (hd.n.ext hbr).at1 (k := k) (by rw [H2.out]; exact hlt) rfl
            have f1 : y.boxes.getD p 0 = y.boxes[p]'(by rw [H1.out]; exact hp1) := by simp [H1.out, hp1]
            have f2 : y.needs.getD k 0 = y.needs[k]'(by rw [H2.out]; exact hlt) := by simp [H2.out, hlt]
            rw [f1, f2] at hrm
            rw [hp] at e0
            generalize y.boxes[p]'(by rw [H1.out]; exact hp1) = vb at *
            generalize y.needs[k]'(by rw [H2.out]; exact hlt) = vn at *
            have hnl : ¬ vb < vn := by omega
            have hpl : ¬ (p : Int) < 0 := by omega
            have hpn : ¬ n1 ≤ p := by omega
            have hB20 := hB18.ext hb
            clear f1 f2 hp hbx hrm hC1
            go_upto_region 12 with fail
            refine Dr.wp_region_plan 31 [] (.q [0, 1, 2, 3, 4, 5, 6, 7, 8, 9, 10, 11, 12, 13, 14, 15, 16, 17, 18, 19, 20, 21, 22, 23, 24, 25, 26, 27, 28, 29, 30] .done) (by kernel_rfl) (by kernel_rfl) ?_
            have hb' := hb.drew
            have q0 := Dr.cell0 (hB20.drew.cell (i := 0) rfl)
            have q1 := Dr.cell0 (hB20.drew.cell (i := 1) rfl)
            have q2 := Dr.cell0 (cell_ext e0 (ext_drew wr))
            have q3 := Dr.cell0 (cell_ext e1 (ext_drew wr))
            have q4 := Dr.cell0 (cell_ext e2 (ext_drew wr))
            clear hb hB20 e0 e1 e2
            generalize World.drew _ = W5 at *
            refine Dr.plan_q (l := [_, _, _, _, _, _, _, _, _, _, _, _, _, _, _, _, _, _, _, _, _, _, _, _, _, _, _, _, _, _, _]) rfl (fun K hK => ?_)
            iterate 31 (go_big_quiet_step (fail))
            refine wpQuiet_nil (hK _ ?_); clear hK K
            refine Dr.plan_end rfl ?_
            clear q0 q1 q2 q3 q4
            go_wp2
            go_roundw
            case rel => exact ⟨k + 1, by go_num, by omega, hb'⟩
            case measure => simp [intOf]; omega
          · obtain rfl : k = n2 := by omega
            have hb20 := ext_trans hb18 hb
            have hB20 := hB18.ext hb
            have hCr20 := hCr18.ext hb
            clear hb hb18 hB18 hCr18
            go_wp2
            go_loopw [9] (fun x wz => ∃ j : Nat, x = .int .i64 j ∧ j ≤ n3 ∧ Below wr.heap.size wr wz) (fun x _ => n3 - (intOf x).toNat)
            case atStart => exact ⟨0, rfl, by omega, Below.refl _ _⟩
            case round =>
              obtain ⟨j, rfl, hj, hbz⟩ := hrel
              have x2 : wr.cell? ⟨w.heap.size, 2, none⟩ = _ := (hB20.ext hbz).cell rfl
              by_cases hjl : j < n3
              · have hjl' : (j : Int) < (n3 : Int) := by omega
                have hj0 : (0 : Int) ≤ (j : Int) := by omega
                have hjf : j < y.foes.length := by rw [H3.out]; exact hjl
                have hmem : y.foes[j] ∈ y.foes := List.getElem_mem hjf
                have hk6 := K6.out _ hmem
                rw [H2.out] at hk6
                obtain ⟨a, ha⟩ := Int.eq_ofNat_of_zero_le hk6.1.1
                obtain ⟨b, hb'⟩ := Int.eq_ofNat_of_zero_le hk6.2.1.1
                have hak : a < k := by omega
                have hbk : b < k := by omega
                have hfar := Harr.out.foe _ hmem (by rw [Hlen.out]; omega) (by rw [Hlen.out]; omega)
                obtain ⟨bf, of, rfl, -, e0, e1⟩ := (hd.f.ext (ext_trans hb20 hbz)).at2 (k := j) hjf rfl
                rw [ha] at e0
                rw [hb'] at e1
                have har : a < r.length := by rw [Hlen.out]; exact hak
                have hbr : b < r.length := by rw [Hlen.out]; exact hbk
                have ea : (y.foes[j]).1.toNat = a := by rw [ha]; simp
                have eb : (y.foes[j]).2.toNat = b := by rw [hb']; simp
                simp only [ea, eb] at hfar
                have hxa := Harr.out.box a har
                have hxb := Harr.out.box b hbr
                rw [H1.out] at hxa hxb
                obtain ⟨br, or, rfl, -, e2⟩ := (hCr20.ext hbz).at1 har rfl
                obtain ⟨br', or', eA, -, e3⟩ := (hCr20.ext hbz).at1 hbr rfl
                cases eA
                generalize r[a] = xa at *
                generalize r[b] = xb at *
                have ha0 : (0 : Int) ≤ (a : Int) := by omega
                have hak' : (a : Int) < (k : Int) := by omega
                have hb0 : (0 : Int) ≤ (b : Int) := by omega
                have hbk' : (b : Int) < (k : Int) := by omega
                have hBz := hB20.ext hbz
                clear hmem hk6 ha hb' ea eb
                go_upto_region 17 with fail
                refine Dr.wp_region_plan 20 [] (.q [0, 1, 2, 3, 4, 5, 6, 7, 8, 9, 10, 11, 12, 13, 14, 15, 16, 17, 18, 19] .done) (by kernel_rfl) (by kernel_rfl) ?_
                have hbz' := hbz.drew
                have q0 := Dr.cell0 (hBz.drew.cell (i := 2) rfl)
                have q1 := Dr.cell0 (cell_ext e0 (ext_drew wr))
                have q2 := Dr.cell0 (cell_ext e1 (ext_drew wr))
                have q3 := Dr.cell0 (cell_ext e2 (ext_drew wr))
                have q4 := Dr.cell0 (cell_ext e3 (ext_drew wr))
                clear hbz hBz e0 e1 e2 e3
                generalize World.drew _ = W5 at *
                refine Dr.plan_q (l := [_, _, _, _, _, _, _, _, _, _, _, _, _, _, _, _, _, _, _, _]) rfl (fun K hK => ?_)
                iterate 20 (go_big_quiet_step (fail))
                refine wpQuiet_nil (hK _ ?_); clear hK K
                refine Dr.plan_end rfl ?_
                clear q0 q1 q2 q3 q4
                by_cases hf1 : -1 ≤ xa - xb
                · have hf2 : ¬ xa - xb ≤ 1 := fun h => hfar ⟨hf1, h⟩
                  go_wp2
                  go_roundw
                  case rel => exact ⟨j + 1, by go_num, by omega, hbz'⟩
                  case measure => simp [intOf]; omega
                · go_wp2
                  go_roundw
                  case rel => exact ⟨j + 1, by go_num, by omega, hbz'⟩
                  case measure => simp [intOf]; omega
              · obtain rfl : j = n3 := by omega
                go_wp2_with fail
                refine (wakes_any _).mono ?_; rintro e wa ⟨rfl, hba⟩
                go_wp2
                go_ret
                exact ⟨rfl, ext_trans (ext_trans hb20 hbz) hba⟩
      · simp only [Prod.mk.injEq] at hl
        obtain ⟨rfl, rfl⟩ := hl
        rw [hno pl]
        clear HS hno
        go_wp2_with fail
        refine (wakes_any _).mono ?_; rintro e w7 ⟨rfl, hb13⟩
        go_wp2
        go_ret
        exact ⟨rfl, ext_trans hb12 hb13⟩
    · have h12' : (12 : Int) < (m : Int) := by omega
      clear hok hd hv
      go_enter Try.func6, Try.ntmps6
      go_wp2_with fail
      refine HR.out.mono ?_; rintro e w1 ⟨rfl, hb1⟩
      go_wp2_with fail
      refine (wakes_any _).mono ?_; rintro e w2 ⟨rfl, hb2⟩
      go_wp2
      go_ret
      exact ⟨rfl, ext_trans (ext_trans hb0 hb1) hb2⟩
end Go.Proofs.Ytopfhinnamhoiaa

/- The law YardNames, walked. -/
import Derived.Deep.DeepCutAuto
import Derived.Test.YtopfhinnamhoiaaNameP
namespace Go.Proofs.Ytopfhinnamhoiaa
open Go.RowKit Go.Bs Go.Yd Go.Pl Go.Sort

set_option maxRecDepth 100000 in
theorem row_blk (w : World) : Calls Try.prog 70 #[] w fun e w' => ∃ b1 b2 b3, e = .returned (.agg #[.slice (some ⟨b1, 0, none⟩) 4 4, .slice (some ⟨b2, 0, none⟩) 3 3, .slice (some ⟨b3, 0, none⟩) 1 1]) ∧ Blk w' b2 3 [.int .i64 40, .int .i64 30, .int .i64 60] ∧ Cells w' (some ⟨b3, 0, none⟩) 2 encP [(0, 2)] ∧ w.heap.size ≤ b2 ∧ b2 < b3 ∧ Below w.heap.size w w' := by
  go_enter Try.func70, Try.ntmps70
  go_wp2
  refine bodyPost_ret (v := .agg #[.slice (some ⟨w.heap.size + 1, 0, none⟩) 4 4, .slice (some ⟨w.heap.size + 2, 0, none⟩) 3 3, .slice (some ⟨w.heap.size + 3, 0, none⟩) 1 1]) (by simp [results, Try.results70, go_sem]) rfl ?_
  have a2 := Blk.new ((w.alloc (.cells #[.slice (some ⟨w.heap.size + 1, 0, none⟩) 4 4, .slice (some ⟨w.heap.size + 1 + 1, 0, none⟩) 3 3, .slice (some ⟨w.heap.size + 1 + 1 + 1, 0, none⟩) 1 1] 61)).alloc (.cells #[.int .i64 40, .int .i64 60, .int .i64 40, .int .i64 80] 3)) 3 [.int .i64 40, .int .i64 30, .int .i64 60]
  have a3 := cells_new (((w.alloc (.cells #[.slice (some ⟨w.heap.size + 1, 0, none⟩) 4 4, .slice (some ⟨w.heap.size + 1 + 1, 0, none⟩) 3 3, .slice (some ⟨w.heap.size + 1 + 1 + 1, 0, none⟩) 1 1] 61)).alloc (.cells #[.int .i64 40, .int .i64 60, .int .i64 40, .int .i64 80] 3)).alloc (.cells #[.int .i64 40, .int .i64 30, .int .i64 60] 3)) 64 2 encP (fun _ => rfl) [(0, 2)]
  simp only [World.size_alloc] at a2 a3
  exact ⟨_, _, _, rfl, a2.alloc _, a3, by omega, by omega, (((Below.refl _ _).alloc (Nat.le_refl _) _).alloc (by simp) _).alloc (by simp; omega) _ |>.alloc (by simp; omega) _⟩
set_option maxRecDepth 100000 in
theorem way_blk (w : World) : Calls Try.prog 68 #[] w fun e w' => ∃ b, e = .returned (.agg #[.slice (some ⟨b, 0, none⟩) 4 4, .int .i64 3]) ∧ Blk w' b 123 (wayR.days.flatMap Mkt.enc) ∧ w.heap.size ≤ b ∧ Below w.heap.size w w' := by
  go_enter Try.func68, Try.ntmps68
  go_wp2
  refine bodyPost_ret (v := .agg #[.slice (some ⟨w.heap.size + 1, 0, none⟩) 4 4, .int .i64 3]) (by simp [results, Try.results68, go_sem]) rfl ?_
  have a1 := Blk.new (w.alloc (.cells #[.slice (some ⟨w.heap.size + 1, 0, none⟩) 4 4, .int .i64 3] 92)) 123 (wayR.days.flatMap Mkt.enc)
  simp only [World.size_alloc] at a1
  exact ⟨_, rfl, a1, by omega, ((Below.refl _ _).alloc (Nat.le_refl _) _).alloc (by simp) _⟩
theorem blk_read {α : Type} {w : World} {B T sz : Nat} {enc : α → List Value} (hen : ∀ x, (enc x).length = sz) {l : List α} (h : Blk w B T (l.flatMap enc)) : Cells w (some ⟨B, 0, none⟩) sz enc l := fun i x hi =>
  ⟨B, 0, rfl, fun j y hj => by
    have := h.cell (flatMap_get hen l i j x y hi hj)
    simpa using this⟩

set_option maxRecDepth 100000 in
set_option maxHeartbeats 8000000 in
theorem names_law (w : World) : Calls Try.prog 16 #[] w fun e w' => e = .returned (.bool true) ∧ Below w.heap.size w w' := by
  have s013 := Lib.hid spend013
  have s03 := Lib.hid spend03
  have s0 := Lib.hid spend0
  have hlf := Lib.hid lampsF
  have hl1 := Lib.hid lamps1
  have hlo := Lib.hid low1
  have hr3 := Lib.hid run3
  have hr1 := Lib.hid run1
  have hbw := Lib.hid buyW
  have hbs := Lib.hid buyS
  have hsf := Lib.hid standF
  have hw1 := Lib.hid weary1
  go_enter Try.func16, Try.ntmps16
  go_wp2_with fail
  refine (way_any w).mono ?_; rintro e w1 ⟨A1, rfl, hR1, hb1⟩
  go_wp2_with fail
  refine (Spend_any wayR A1 4 4 [0, 1, 3] (some ⟨w1.heap.size, 0, none⟩) 3 3 _ rfl (by omega) (by omega) rfl (by omega) (hR1.ext (ext_alloc w1 _)) (cells_new w1 3 1 encI encI_len [0, 1, 3])).mono ?_; rintro e w2 ⟨rfl, hb2⟩
  rw [s013.out]
  have hb3 := ext_trans (ext_trans hb1 (ext_alloc w1 _)) hb2
  clear hb1 hb2 hR1
  go_wp2_with fail
  refine (way_any w2).mono ?_; rintro e w3 ⟨A3, rfl, hR3, hb4⟩
  go_wp2_with fail
  refine (Spend_any wayR A3 4 4 [0, 3] (some ⟨w3.heap.size, 0, none⟩) 2 2 _ rfl (by omega) (by omega) rfl (by omega) (hR3.ext (ext_alloc w3 _)) (cells_new w3 3 1 encI encI_len [0, 3])).mono ?_; rintro e w4 ⟨rfl, hb5⟩
  rw [s03.out]
  have hb6 := ext_trans (ext_trans (ext_trans hb3 hb4) (ext_alloc w3 _)) hb5
  clear hb3 hb4 hb5 hR3
  go_wp2_with fail
  refine (lamps_any w4).mono ?_; rintro e w5 ⟨A5, rfl, hG5, hb7⟩
  go_wp2_with fail
  refine (Flows_any lampsG A5 3 3 w5 rfl (by omega) (by omega) hG5).mono ?_
  rintro e w6 ⟨vf, vd, rfl, hvf, hvd, hb8⟩
  rw [hlf.out] at hvf hvd ⊢
  obtain ⟨Af, cf, rfl, -, -, hCf, -⟩ := hvf
  obtain ⟨Ad, cd, rfl, -, -, hCd, -⟩ := hvd
  have hb9 := ext_trans (ext_trans hb6 hb7) hb8
  clear hb6 hb7 hb8 hG5
  go_wp2_with fail
  refine (lamps_any w6).mono ?_; rintro e w7 ⟨A7, rfl, hG7, hb10⟩
  go_wp2_with fail
  refine (Spare_any lampsG A7 3 3 1 w7 rfl (by omega) (by omega) hG7).mono ?_
  rintro e w8 ⟨rfl, hb11⟩
  rw [hl1.out]
  have hb12 := ext_trans (ext_trans hb9 hb10) hb11
  have hCf2 := (hCf.ext hb10).ext hb11
  have hCd2 := (hCd.ext hb10).ext hb11
  clear hb9 hb10 hb11 hG7 hCf hCd
  obtain ⟨bf, of, rfl, -, f0, f1⟩ := hCf2.at2 (k := 0) (by decide) rfl
  obtain ⟨bf', of', e1, -, f2, f3⟩ := hCf2.at2 (k := 2) (by decide) rfl
  cases e1
  obtain ⟨bd, od, rfl, -, d0, d1⟩ := hCd2.at2 (k := 0) (by decide) rfl
  obtain ⟨bd', od', e1, -, d2, d3⟩ := hCd2.at2 (k := 1) (by decide) rfl
  cases e1
  obtain ⟨bd', od', e1, -, d4, d5⟩ := hCd2.at2 (k := 2) (by decide) rfl
  cases e1
  simp only [Nat.zero_mul, Nat.one_mul, Nat.add_zero, Nat.reduceMul] at f0 f1 f2 f3 d0 d1 d2 d3 d4 d5
  clear hCf2 hCd2
  go_upto_region 9 with fail
  clear f0 f1 f2 f3 d0 d1 d2 d3 d4 d5
  go_wp2_with fail
  refine (Run_any engs3 (some ⟨w8.heap.size, 0, none⟩) 3 3 2500 1000 _ rfl (by omega) (cells_new w8 121 3 Eng.enc (fun _ => rfl) engs3)).mono ?_
  rintro e w9 ⟨v9, rfl, hv9, hb13⟩
  rw [hr3.out] at hv9 ⊢
  obtain ⟨A9, c9, rfl, -, -, hC9, -⟩ := hv9
  have hb14 := ext_trans (ext_trans hb12 (ext_alloc w8 _)) hb13
  clear hb12 hb13
  go_wp2_with fail
  refine (way_any w9).mono ?_; rintro e w10 ⟨A10, rfl, hR10, hb15⟩
  go_wp2_with fail
  refine (Buy_any wayR A10 4 4 w10 rfl (by omega) (by omega) hR10).mono ?_
  rintro e w11 ⟨v11, x11, rfl, hv11, hx11, hb16⟩
  rw [hbw.out] at hv11 hx11 ⊢
  obtain ⟨A11, c11, rfl, -, -, hC11, -⟩ := hv11
  obtain ⟨T11, d11, rfl, -, -, hT11, -⟩ := hx11
  have htl : (tab 5 wayR.tbl).length = 5 := tab_len _ _
  simp only at hC11 hT11 ⊢
  rw [htl]
  have Htl := Lib.hid htl
  have HP1 := Lib.hid prove01
  have HP2 := Lib.hid prove03
  have HP3 := Lib.hid prove013
  clear htl
  generalize tab 5 wayR.tbl = tb at *
  have hb17 := ext_trans (ext_trans hb14 hb15) hb16
  have hC9' := (hC9.ext hb15).ext hb16
  clear hb14 hb15 hb16 hR10 hC9
  go_wp2_with fail
  refine (ints_any A9 (some ⟨w11.heap.size, 0, none⟩) 2 2 c9 2 [0, 2] [0, 2] _ rfl rfl (by omega) (by omega) (hC9'.ext (ext_alloc w11 _)) (cells_new w11 3 1 encI encI_len [0, 2])).mono ?_
  rintro e w12 ⟨rfl, hb18⟩
  rw [show decide ([0, 2] = ([0, 2] : List Int)) = true from rfl]
  have hx := ext_trans (ext_alloc w11 (.cells #[.int .i64 0, .int .i64 2] 3)) hb18
  have hb19 := ext_trans hb17 hx
  have hC12 := hC11.ext hx
  have hT12 := hT11.ext hx
  clear hx hb17 hb18 hC9' hC11 hT11
  go_wp2_with fail
  refine (way_any w12).mono ?_; rintro e w13 ⟨A13, rfl, hR13, hb20⟩
  go_wp2_with fail
  refine (ProveBuy_any wayR A13 4 4 [0, 1] A11 2 c11 320 tb T11 5 d11 w13 true ⟨fun _ => HP1.out, fun _ => rfl⟩ rfl (by omega) (by omega) rfl (by omega) Htl.out (by omega) hR13 (hC12.ext hb20) (hT12.ext hb20)).mono ?_; rintro e w14 ⟨rfl, hb21⟩
  have hx := ext_trans hb20 hb21
  have hb22 := ext_trans hb19 hx
  have hT14 := hT12.ext hx
  clear hx hb19 hb20 hb21 hC12 hT12 hR13
  go_wp2_with fail
  refine (way_any w14).mono ?_; rintro e w15 ⟨A15, rfl, hR15, hb23⟩
  go_wp2_with fail
  refine (ProveBuy_any wayR A15 4 4 [0, 3] (some ⟨w15.heap.size, 0, none⟩) 2 2 320 tb T11 5 d11 _ true ⟨fun _ => HP2.out, fun _ => rfl⟩ rfl (by omega) (by omega) rfl (by omega) Htl.out (by omega) (hR15.ext (ext_alloc w15 _)) (cells_new w15 3 1 encI encI_len [0, 3]) ((hT14.ext hb23).ext (ext_alloc w15 _))).mono ?_; rintro e w16 ⟨rfl, hb24⟩
  have hx := ext_trans (ext_trans hb23 (ext_alloc w15 (.cells #[.int .i64 0, .int .i64 3] 3))) hb24
  have hb25 := ext_trans hb22 hx
  have hT16 := hT14.ext hx
  clear hx hb22 hb23 hb24 hT14 hR15
  go_wp2_with fail
  refine (way_any w16).mono ?_; rintro e w17 ⟨A17, rfl, hR17, hb26⟩
  go_wp2_with fail
  refine (ProveBuy_any wayR A17 4 4 [0, 1, 3] (some ⟨w17.heap.size, 0, none⟩) 3 3 350 tb T11 5 d11 _ false ⟨(fun h => by cases h), (fun h => absurd h HP3.out)⟩ rfl (by omega) (by omega) rfl (by omega) Htl.out (by omega) (hR17.ext (ext_alloc w17 _)) (cells_new w17 3 1 encI encI_len [0, 1, 3]) ((hT16.ext hb26).ext (ext_alloc w17 _))).mono ?_; rintro e w18 ⟨rfl, hb27⟩
  have hb28 := ext_trans hb25 (ext_trans (ext_trans hb26 (ext_alloc w17 (.cells #[.int .i64 0, .int .i64 1, .int .i64 3] 3))) hb27)
  clear hb25 hb26 hb27 hT16 hR17
  go_wp2_with fail
  refine (row_blk w18).mono ?_; rintro e w19 ⟨b1, b2, b3, rfl, hB2, hC3, hlb2, hlb3, hb29⟩
  go_upto_region 14 with fail
  have hb30 := ext_trans (ext_trans hb28 hb29) (ext_alloc w19 (.cells #[.slice (some ⟨b1, 0, none⟩) 4 4, .slice (some ⟨b2, 0, none⟩) 3 3, .slice (some ⟨b3, 0, none⟩) 1 1] 61))
  have hBY := Blk.new w19 61 [.slice (some ⟨b1, 0, none⟩) 4 4, .slice (some ⟨b2, 0, none⟩) 3 3, .slice (some ⟨b3, 0, none⟩) 1 1]
  have hB2b := hB2.alloc (.cells #[.slice (some ⟨b1, 0, none⟩) 4 4, .slice (some ⟨b2, 0, none⟩) 3 3, .slice (some ⟨b3, 0, none⟩) 1 1] 61)
  have hC3b := hC3.alloc (.cells #[.slice (some ⟨b1, 0, none⟩) 4 4, .slice (some ⟨b2, 0, none⟩) 3 3, .slice (some ⟨b3, 0, none⟩) 1 1] 61)
  change Blk (w19.alloc (.cells #[.slice (some ⟨b1, 0, none⟩) 4 4, .slice (some ⟨b2, 0, none⟩) 3 3, .slice (some ⟨b3, 0, none⟩) 1 1] 61)) _ _ _ at hBY
  have hlY : w18.heap.size ≤ w19.heap.size := hb29.size
  have hl2 : b2 < w19.heap.size := hB2.lt
  have hl3 : b3 < w19.heap.size := by
    obtain ⟨b, o, e, h, -, -⟩ := hC3.at2 (k := 0) (by decide) rfl
    cases e; exact h
  have hw18 := hb28.size
  generalize hWY : w19.alloc (.cells #[.slice (some ⟨b1, 0, none⟩) 4 4, .slice (some ⟨b2, 0, none⟩) 3 3, .slice (some ⟨b3, 0, none⟩) 1 1] 61) = WY at *
  have hsY : WY.heap.size = w19.heap.size + 1 := by rw [← hWY]; simp
  generalize w19.heap.size = BY at *
  clear hb28 hb29 hB2 hC3 hWY
  have HsY := Lib.hid hsY
  clear hsY
  have hn1 := ext_alloc WY (.cells #[.int .i64 60, .int .i64 60, .int .i64 40] 3)
  have x0 : (WY.alloc (.cells #[.int .i64 60, .int .i64 60, .int .i64 40] 3)).cell? ⟨BY, 0, none⟩ = _ := (hBY.ext hn1).cell rfl
  have f0 := (hBY.ext hn1).free 0
  go_upto_region 15 with fail
  have hcN := cells_new WY 3 1 encI encI_len [60, 60, 40]
  have hb31 : Below w.heap.size w ((WY.alloc (.cells #[.int .i64 60, .int .i64 60, .int .i64 40] 3)).setCell ⟨BY, 0, none⟩ (.slice (some ⟨WY.heap.size, 0, none⟩) 3 3)) := (ext_trans hb30 hn1).setCell (by simp; omega) _
  have hB2c := Blk.other (p := ⟨BY, 0, none⟩) (hB2b.ext hn1) (by simp; omega) (.slice (some ⟨WY.heap.size, 0, none⟩) 3 3)
  have hBYc := (hBY.ext hn1).set 0 (.slice (some ⟨WY.heap.size, 0, none⟩) 3 3)
  have hC3c := Cells.setCell (p := ⟨BY, 0, none⟩) (hC3b.ext hn1) (by simp; omega) (.slice (some ⟨WY.heap.size, 0, none⟩) 3 3)
  have hcNc := Cells.setCell (p := ⟨BY, 0, none⟩) hcN (by simp; have := HsY.out; omega) (.slice (some ⟨WY.heap.size, 0, none⟩) 3 3)
  change Cells ((WY.alloc (.cells #[.int .i64 60, .int .i64 60, .int .i64 40] 3)).setCell ⟨BY, 0, none⟩ (.slice (some ⟨WY.heap.size, 0, none⟩) 3 3)) _ _ _ _ at hcNc
  simp only [List.set_cons_zero] at hBYc
  have hnw : BY < WY.heap.size := by have := HsY.out; omega
  clear hn1 hcN hb30 hB2b hBY hC3b x0 f0
  generalize hNW : WY.heap.size = NW at *
  generalize (WY.alloc (.cells #[.int .i64 60, .int .i64 60, .int .i64 40] 3)).setCell ⟨BY, 0, none⟩ (.slice (some ⟨NW, 0, none⟩) 3 3) = WZ at *
  have x1 : WZ.cell? ⟨BY, 1, none⟩ = _ := hBYc.cell rfl
  have y0 : WZ.cell? ⟨b2, 0, none⟩ = _ := hB2c.cell rfl
  have g0 := hB2c.free 0
  go_upto_region 16 with fail
  have hb32 : Below w.heap.size w (WZ.setCell ⟨b2, 0, none⟩ (.int .i64 60)) := hb31.setCell (by simp; omega) _
  have hB2d := hB2c.set 0 (.int .i64 60)
  have hBYd := Blk.other (p := ⟨b2, 0, none⟩) hBYc (by simp; omega) (.int .i64 60)
  have hC3d := Cells.setCell (p := ⟨b2, 0, none⟩) hC3c (by simp; omega) (.int .i64 60)
  have hcNd := Cells.setCell (p := ⟨b2, 0, none⟩) hcNc (by simp; omega) (.int .i64 60)
  simp only [List.set_cons_zero] at hB2d
  clear hb31 hB2c hBYc hC3c hcNc x1 y0 g0
  generalize WZ.setCell ⟨b2, 0, none⟩ (.int .i64 60) = WQ at *
  have x0 : WQ.cell? ⟨BY, 0, none⟩ = _ := hBYd.cell rfl
  have x1 : WQ.cell? ⟨BY, 1, none⟩ = _ := hBYd.cell rfl
  have x2 : WQ.cell? ⟨BY, 2, none⟩ = _ := hBYd.cell rfl
  go_wp2_with fail
  refine (Stand_any fullY (some ⟨NW, 0, none⟩) (some ⟨b2, 0, none⟩) (some ⟨b3, 0, none⟩) 3 3 1 3 3 1 WQ rfl rfl rfl (by omega) (by omega) (by omega) (by omega) ⟨hcNd, blk_cells (l := [60, 30, 60]) (sp := []) hB2d, hC3d⟩).mono ?_
  rintro e w20 ⟨v20, rfl, -, hb33⟩
  rw [hsf.out]
  have hb34 := ext_trans hb32 hb33
  clear hb32 hb33 hB2d hBYd hC3d hcNd x0 x1 x2
  simp only
  go_wp2_with fail
  refine (weary_any 300 1200 (some ⟨w20.heap.size, 0, none⟩) 1 1 [200] _ rfl (by omega) (cells_new w20 3 1 encI encI_len [200])).mono ?_
  rintro e w21 ⟨rfl, hb35⟩
  rw [hw1.out]
  simp only [tupW]
  have hb36 := ext_trans (ext_trans hb34 (ext_alloc w20 _)) hb35
  clear hb34 hb35
  go_wp2_with fail
  refine (way_any w21).mono ?_; rintro e w22 ⟨A22, rfl, hR22, hb37⟩
  go_wp2_with fail
  refine (Spend_any wayR A22 4 4 [0] (some ⟨w22.heap.size, 0, none⟩) 1 1 _ rfl (by omega) (by omega) rfl (by omega) (hR22.ext (ext_alloc w22 _)) (cells_new w22 3 1 encI encI_len [0])).mono ?_; rintro e w23 ⟨rfl, hb38⟩
  rw [s0.out]
  have hb39 := ext_trans hb36 (ext_trans (ext_trans hb37 (ext_alloc w22 (.cells #[.int .i64 0] 3))) hb38)
  clear hb36 hb37 hb38 hR22
  go_wp2_with fail
  refine (way_blk w23).mono ?_; rintro e w24 ⟨b24, rfl, hB24, hl24, hb40⟩
  go_upto_region 20 with fail
  have hn2 := ext_alloc w24 (.cells #[.slice (some ⟨b24, 0, none⟩) 4 4, .int .i64 3] 92)
  have hb41 := ext_trans (ext_trans hb39 hb40) hn2
  have hBW := Blk.new w24 92 [.slice (some ⟨b24, 0, none⟩) 4 4, .int .i64 3]
  change Blk (w24.alloc (.cells #[.slice (some ⟨b24, 0, none⟩) 4 4, .int .i64 3] 92)) _ _ _ at hBW
  have hB24b := hB24.ext hn2
  have hlt24 : b24 < w24.heap.size := hB24.lt
  have hw23 := hb39.size
  clear hb39 hb40 hB24 hn2
  generalize w24.alloc (.cells #[.slice (some ⟨b24, 0, none⟩) 4 4, .int .i64 3] 92) = WS at *
  generalize w24.heap.size = BS at *
  have x0 : WS.cell? ⟨BS, 0, none⟩ = _ := hBW.cell rfl
  have y3 : WS.cell? ⟨b24, 3, none⟩ = some (.bool true) := hB24b.cell rfl
  have g3 := hB24b.free 3
  go_upto_region 21 with fail
  have hb42 : Below w.heap.size w (WS.setCell ⟨b24, 3, none⟩ (.bool false)) := hb41.setCell (by simp; omega) _
  have hBW2 := Blk.other (p := ⟨b24, 3, none⟩) hBW (by simp; omega) (.bool false)
  have hB24c : Blk (WS.setCell ⟨b24, 3, none⟩ (.bool false)) b24 123 (shutR.days.flatMap Mkt.enc) := hB24b.set 3 (.bool false)
  clear hb41 hBW hB24b x0 y3 g3
  generalize WS.setCell ⟨b24, 3, none⟩ (.bool false) = WT at *
  have x0 : WT.cell? ⟨BS, 0, none⟩ = _ := hBW2.cell rfl
  have x1 : WT.cell? ⟨BS, 1, none⟩ = _ := hBW2.cell rfl
  go_wp2_with fail
  refine (Buy_any shutR (some ⟨b24, 0, none⟩) 4 4 WT rfl (by omega) (by omega) (blk_read (enc := Mkt.enc) (sz := 4) (fun _ => rfl) hB24c)).mono ?_
  rintro e w25 ⟨v25, x25, rfl, -, -, hb43⟩
  rw [hbs.out]
  simp only
  have hb44 := ext_trans hb42 hb43
  clear hb42 hb43 hBW2 hB24c x0 x1
  go_wp2_with fail
  refine (lamps_any w25).mono ?_; rintro e w26 ⟨A26, rfl, hG26, hb45⟩
  go_upto_region 23 with fail
  have hn3 := ext_alloc w26 (.cells #[.slice A26 3 3, .int .i64 10000] 43)
  have hb46 := ext_trans (ext_trans hb44 hb45) hn3
  have hBG := Blk.new w26 43 [.slice A26 3 3, .int .i64 10000]
  change Blk (w26.alloc (.cells #[.slice A26 3 3, .int .i64 10000] 43)) _ _ _ at hBG
  have hG26b := hG26.ext hn3
  have hlA : ∀ q, A26.map (·.block) = some q → q ≠ w26.heap.size := fun q hq => by
    obtain ⟨b, o, e, h, -⟩ := hG26.node (k := 0) (by decide)
    subst e
    simp at hq
    omega
  have hw25 := hb45.size
  have hw00 := hb44.size
  clear hb44 hb45 hG26 hn3
  generalize w26.alloc (.cells #[.slice A26 3 3, .int .i64 10000] 43) = WG at *
  generalize w26.heap.size = BG at *
  have x1 : WG.cell? ⟨BG, 1, none⟩ = _ := hBG.cell rfl
  have f1 := hBG.free 1
  go_upto_region 24 with fail
  have hb47 : Below w.heap.size w (WG.setCell ⟨BG, 1, none⟩ (.int .i64 7000)) := hb46.setCell (by simp; omega) _
  have hBG2 := hBG.set 1 (.int .i64 7000)
  have hG2 : GdAt (WG.setCell ⟨BG, 1, none⟩ (.int .i64 7000)) A26 lowG := Cells.setCell hG26b (fun h => hlA _ h rfl) _
  simp only [List.set_cons_succ, List.set_cons_zero] at hBG2
  clear hb46 hBG hG26b x1 f1
  generalize WG.setCell ⟨BG, 1, none⟩ (.int .i64 7000) = WH at *
  have x0 : WH.cell? ⟨BG, 0, none⟩ = _ := hBG2.cell rfl
  have x1 : WH.cell? ⟨BG, 1, none⟩ = _ := hBG2.cell rfl
  go_wp2_with fail
  refine (Spare_any lowG A26 3 3 1 WH rfl (by omega) (by omega) hG2).mono ?_
  rintro e w27 ⟨rfl, hb48⟩
  rw [hlo.out]
  have hb49 := ext_trans hb47 hb48
  clear hb47 hb48 hBG2 hG2 x0 x1
  simp only
  go_wp2_with fail
  refine (Run_any [⟨5, 0, 0⟩] (some ⟨w27.heap.size, 0, none⟩) 1 1 5 1 _ rfl (by omega) (cells_new w27 121 3 Eng.enc (fun _ => rfl) [⟨5, 0, 0⟩])).mono ?_
  rintro e w28 ⟨v28, rfl, -, hb50⟩
  rw [hr1.out]
  have hb51 := ext_trans (ext_trans hb49 (ext_alloc w27 _)) hb50
  clear hb49 hb50
  simp only
  go_wp2_with fail
  refine (CheckYard_any ⟨[], [], []⟩ none none none 0 0 0 0 0 0 w28 rfl rfl rfl (by omega) (by omega) (by omega) ⟨Cells.nil, Cells.nil, Cells.nil⟩).mono ?_
  rintro e w29 ⟨rfl, hb52⟩
  rw [if_neg (show ¬ Yrd.okB ⟨[], [], []⟩ = true by decide)]
  go_wp2_with fail
  refine (CheckRoad_any ⟨[], 0⟩ none 0 0 w29 rfl (by omega) Cells.nil).mono ?_
  rintro e w30 ⟨rfl, hb53⟩
  rw [if_neg (show ¬ Rd.okB ⟨[], 0⟩ = true by decide)]
  go_wp2_with fail
  refine (CheckGrid_any ⟨[], 0⟩ none 0 0 w30 rfl (by omega) Cells.nil).mono ?_
  rintro e w31 ⟨rfl, hb54⟩
  rw [if_neg (show ¬ Gd.okB ⟨[], 0⟩ = true by decide)]
  have hb55 := ext_trans (ext_trans (ext_trans hb51 hb52) hb53) hb54
  go_wp2_with fail
  refine (wakes_any _).mono ?_; rintro e w32 ⟨rfl, hb56⟩
  go_wp2
  go_ret
  exact ⟨rfl, ext_trans hb55 hb56⟩
end Go.Proofs.Ytopfhinnamhoiaa

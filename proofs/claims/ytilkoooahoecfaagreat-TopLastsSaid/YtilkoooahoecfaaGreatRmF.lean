/- Walks: rigging: slack, over for one point. -/
import Derived.Test.YtilkoooahoecfaaGreatRmE
namespace Go.Proofs.YtilkoooahoecfaaGreat.Rg
open Go.RowKit Go.Bs Go.Pl Go.Sort Go.Rg
set_option maxHeartbeats 2000000 in
set_option maxRecDepth 100000 in
theorem slack_any (F : Nat) (cs : List Value) (w : World) (hF : Blk w F 99 cs) (h1 : cs[1]? = some (.slice none 0 0)) :
    Calls Tryz.prog 27 #[.pointer (some ⟨F, 0, none⟩)] w fun e w' => e = .returned (.tuple #[.agg #[.int .i64 0, .int .i64 0], .agg (rwC fun _ => 0).toArray, .bool false]) ∧ Below w.heap.size w w' := by
  have hs1 : (w.alloc (.cells #[.pointer (some ⟨F, 0, none⟩)] 74)).heap.size = w.heap.size + 1 := by simp
  have hs2 : ((w.alloc (.cells #[.pointer (some ⟨F, 0, none⟩)] 74)).alloc (.cells #[.int .i64 0, .int .i64 0] 76)).heap.size = w.heap.size + 2 := by simp
  have x1 := ext_alloc w (.cells #[.pointer (some ⟨F, 0, none⟩)] 74)
  have x2 := ext_alloc (w.alloc (.cells #[.pointer (some ⟨F, 0, none⟩)] 74)) (.cells #[.int .i64 0, .int .i64 0] 76)
  have x3 := ext_alloc ((w.alloc (.cells #[.pointer (some ⟨F, 0, none⟩)] 74)).alloc (.cells #[.int .i64 0, .int .i64 0] 76)) (.cells #[.int .i64 0, .int .i64 0, .int .i64 0, .int .i64 0, .int .i64 0, .int .i64 0, .int .i64 0, .int .i64 0, .int .i64 0, .int .i64 0, .int .i64 0, .int .i64 0, .int .i64 0, .int .i64 0, .int .i64 0, .int .i64 0, .int .i64 0, .int .i64 0, .int .i64 0, .int .i64 0, .int .i64 0] 78)
  have hB := ((Blk.new w 74 [.pointer (some ⟨F, 0, none⟩)]).ext x2).ext x3
  have hP := (Blk.new (w.alloc (.cells #[.pointer (some ⟨F, 0, none⟩)] 74)) 76 [.int .i64 0, .int .i64 0]).ext x3
  have hR := RwB.zero ((w.alloc (.cells #[.pointer (some ⟨F, 0, none⟩)] 74)).alloc (.cells #[.int .i64 0, .int .i64 0] 76))
  rw [hs1] at hP
  rw [hs2] at hR
  have hxw := ext_trans x1 (ext_trans x2 x3)
  have hF1 := ((hF.ext x1).ext x2).ext x3
  clear x1 x2 x3 hs1 hs2 hF
  go_enter Tryz.func27, Tryz.ntmps27
  go_upto_region 1 with fail
  change Blk (((w.alloc (.cells #[.pointer (some ⟨F, 0, none⟩)] 74)).alloc (.cells #[.int .i64 0, .int .i64 0] 76)).alloc (.cells #[.int .i64 0, .int .i64 0, .int .i64 0, .int .i64 0, .int .i64 0, .int .i64 0, .int .i64 0, .int .i64 0, .int .i64 0, .int .i64 0, .int .i64 0, .int .i64 0, .int .i64 0, .int .i64 0, .int .i64 0, .int .i64 0, .int .i64 0, .int .i64 0, .int .i64 0, .int .i64 0, .int .i64 0] 78)) w.heap.size 74 _ at hB
  generalize ((w.alloc (.cells #[.pointer (some ⟨F, 0, none⟩)] 74)).alloc (.cells #[.int .i64 0, .int .i64 0] 76)).alloc (.cells #[.int .i64 0, .int .i64 0, .int .i64 0, .int .i64 0, .int .i64 0, .int .i64 0, .int .i64 0, .int .i64 0, .int .i64 0, .int .i64 0, .int .i64 0, .int .i64 0, .int .i64 0, .int .i64 0, .int .i64 0, .int .i64 0, .int .i64 0, .int .i64 0, .int .i64 0, .int .i64 0, .int .i64 0] 78) = W1 at *
  generalize hXe : w.heap.size = X at *
  have b0 : W1.cell? ⟨X, 0, none⟩ = _ := hB.cell (i := 0) rfl
  have CH := Lib.hid (hanger_any F (.func (.func 48) #[] #[.pointer (some ⟨X, 0, none⟩)]) cs W1 hF1 h1)
  clear hF1
  go_wp2_with (first | (refine CH.out.mono ?_; rintro e W2 ⟨rfl, hb2⟩; have hP2 := hP.ext hb2; have hR2 : RwB W2 (X + 2) (fun _ => 0) := Blk.ext hR hb2; have hx2 := hxw.trans (hb2.mono (by have := hxw.size; have := Blk.lt hB; omega)); have p0 : W2.cell? ⟨X + 1, 0, none⟩ = _ := hP2.cell (i := 0) rfl; have p1 : W2.cell? ⟨X + 1, 1, none⟩ = _ := hP2.cell (i := 1) rfl; have g0 := hP2.free 0; have g1 := hP2.free 1; clear hb2 b0 CH) | refine st_row rfl _ _ rfl (X + 2) 0 (fun _ => 0) rfl rfl (RwB.there (Blk.other (Blk.other hR2 (by simp) _) (by simp) _)) ?_)
  have hP3 := (hP2.set 0 (.int .i64 0)).set 1 (.int .i64 0)
  have hR3 : RwB _ (X + 2) (fun _ => 0) := Blk.other (Blk.other hR2 (p := ⟨X + 1, 0, none⟩) (by simp) (.int .i64 0)) (p := ⟨X + 1, 1, none⟩) (by simp) (.int .i64 0)
  have hP4 := Blk.apart (b := X + 2) (by omega) (rwC fun _ => 0) 0 hP3
  have hR4 : RwB _ (X + 2) (fun _ => 0) := Blk.setAll hR3 (r := rwC fun _ => 0) (by rw [rwC_len])
  have hx4 := below_setCells (b := X + 2) (by omega) (rwC fun _ => 0) 0 ((hx2.setCell (p := ⟨X + 1, 0, none⟩) (by simp) (.int .i64 0)).setCell (p := ⟨X + 1, 1, none⟩) (by simp) (.int .i64 0))
  exact bodyPost_ret (res3 rfl _ _ (X + 1) (X + 2) 0 0 (fun _ => 0) (.bool false) rfl rfl rfl hP4 hR4) rfl ⟨rfl, hXe ▸ hx4⟩
set_option maxHeartbeats 4000000 in
set_option maxRecDepth 100000 in
theorem over_any (p L cL t F : Nat) (hv uv : Value) (f : Nat → Int) (n : Int) (w : World) (hn : 0 ≤ n ∧ n ≤ 1000000) (h0 : f 0 = 216000) (h20 : f 20 = 0) (hL : LdB w L [.int .i64 (-1), .int .i64 0, .int .u8 2, .int .i64 0, .int .i64 n]) (hF : Blk w F 99 [.slice (some ⟨p, 0, none⟩) 1 1, .slice none 0 0, .int .i64 1000, .int .i64 1000, .int .i64 2000, .slice (some ⟨L, 0, none⟩) 1 cL, .slice (some ⟨t, 0, none⟩) 1 1, hv, uv]) (hT : RwB w t f) (h9 : Blk w p 3 [.int .i64 9]) :
    Calls Tryz.prog 26 #[.pointer (some ⟨F, 0, none⟩)] w fun e w' => ∃ a b g, e = .returned (.tuple #[.agg #[.int .i64 a, .int .i64 b], .agg (rwC g).toArray, .bool (decide (9 < 2 * n))]) ∧ Below w.heap.size w w' := by
  have hs1 : (w.alloc (.cells #[.pointer (some ⟨F, 0, none⟩)] 74)).heap.size = w.heap.size + 1 := by simp
  have hs2 : ((w.alloc (.cells #[.pointer (some ⟨F, 0, none⟩)] 74)).alloc (.cells #[.int .i64 0, .int .i64 0] 76)).heap.size = w.heap.size + 2 := by simp
  have x1 := ext_alloc w (.cells #[.pointer (some ⟨F, 0, none⟩)] 74)
  have x2 := ext_alloc (w.alloc (.cells #[.pointer (some ⟨F, 0, none⟩)] 74)) (.cells #[.int .i64 0, .int .i64 0] 76)
  have x3 := ext_alloc ((w.alloc (.cells #[.pointer (some ⟨F, 0, none⟩)] 74)).alloc (.cells #[.int .i64 0, .int .i64 0] 76)) (.cells #[.int .i64 0, .int .i64 0, .int .i64 0, .int .i64 0, .int .i64 0, .int .i64 0, .int .i64 0, .int .i64 0, .int .i64 0, .int .i64 0, .int .i64 0, .int .i64 0, .int .i64 0, .int .i64 0, .int .i64 0, .int .i64 0, .int .i64 0, .int .i64 0, .int .i64 0, .int .i64 0, .int .i64 0] 78)
  have hB := ((Blk.new w 74 [.pointer (some ⟨F, 0, none⟩)]).ext x2).ext x3
  have hP := (Blk.new (w.alloc (.cells #[.pointer (some ⟨F, 0, none⟩)] 74)) 76 [.int .i64 0, .int .i64 0]).ext x3
  have hR := RwB.zero ((w.alloc (.cells #[.pointer (some ⟨F, 0, none⟩)] 74)).alloc (.cells #[.int .i64 0, .int .i64 0] 76))
  rw [hs1] at hP
  rw [hs2] at hR
  have hxw := ext_trans x1 (ext_trans x2 x3)
  have hF1 := ((hF.ext x1).ext x2).ext x3
  have hL1 := ((hL.ext x1).ext x2).ext x3
  have h91 := ((h9.ext x1).ext x2).ext x3
  clear x1 x2 x3 hs1 hs2 hF hL h9
  have hT1 : RwB (((w.alloc (.cells #[.pointer (some ⟨F, 0, none⟩)] 74)).alloc (.cells #[.int .i64 0, .int .i64 0] 76)).alloc (.cells #[.int .i64 0, .int .i64 0, .int .i64 0, .int .i64 0, .int .i64 0, .int .i64 0, .int .i64 0, .int .i64 0, .int .i64 0, .int .i64 0, .int .i64 0, .int .i64 0, .int .i64 0, .int .i64 0, .int .i64 0, .int .i64 0, .int .i64 0, .int .i64 0, .int .i64 0, .int .i64 0, .int .i64 0] 78)) t f := Blk.ext hT hxw
  clear hT
  go_enter Tryz.func26, Tryz.ntmps26
  go_upto_region 1 with fail
  change Blk (((w.alloc (.cells #[.pointer (some ⟨F, 0, none⟩)] 74)).alloc (.cells #[.int .i64 0, .int .i64 0] 76)).alloc (.cells #[.int .i64 0, .int .i64 0, .int .i64 0, .int .i64 0, .int .i64 0, .int .i64 0, .int .i64 0, .int .i64 0, .int .i64 0, .int .i64 0, .int .i64 0, .int .i64 0, .int .i64 0, .int .i64 0, .int .i64 0, .int .i64 0, .int .i64 0, .int .i64 0, .int .i64 0, .int .i64 0, .int .i64 0] 78)) w.heap.size 74 _ at hB
  generalize ((w.alloc (.cells #[.pointer (some ⟨F, 0, none⟩)] 74)).alloc (.cells #[.int .i64 0, .int .i64 0] 76)).alloc (.cells #[.int .i64 0, .int .i64 0, .int .i64 0, .int .i64 0, .int .i64 0, .int .i64 0, .int .i64 0, .int .i64 0, .int .i64 0, .int .i64 0, .int .i64 0, .int .i64 0, .int .i64 0, .int .i64 0, .int .i64 0, .int .i64 0, .int .i64 0, .int .i64 0, .int .i64 0, .int .i64 0, .int .i64 0] 78) = W1 at *
  generalize hXe : w.heap.size = X at *
  have b0 : W1.cell? ⟨X, 0, none⟩ = _ := hB.cell (i := 0) rfl
  have c6 : W1.cell? ⟨F, 6, none⟩ = _ := hF1.cell (i := 6) rfl
  have hXW : X + 2 < W1.heap.size := Blk.lt hR
  have CH := Lib.hid (fun W (hb : Below W1.heap.size W1 W) => hanger_any F (.func (.func 47) #[] #[.pointer (some ⟨X, 0, none⟩)]) _ W (hF1.ext hb) rfl)
  have CM := Lib.hid (fun W (hb : Below W1.heap.size W1 W) => most_any p L cL t F hv uv f n W hn h0 h20 (hL1.ext hb) (hF1.ext hb))
  have hF0 : Blk W1 F 99 [.slice (some ⟨p, 0, none⟩) 1 1, .slice none 0 0, .int .i64 1000, .int .i64 1000, .int .i64 2000, .slice (some ⟨L, 0, none⟩) 1 cL, .slice (some ⟨t, 0, none⟩) 1 1, hv, uv] := hF1
  go_upto_region 2 with fail
  clear b0 c6
  go_loopw [4, 5, 6, 12] (fun b _ _ i wr => b = .bool false ∧ ((i = .int .i64 0 ∧ W1 = wr) ∨ (i = .int .i64 1 ∧ ¬ 9 < 2 * n ∧ Below W1.heap.size W1 wr))) (fun _ _ _ i _ => 1 - (intOf i).toNat)
  case atStart => exact ⟨rfl, .inl ⟨rfl, rfl⟩⟩
  case round =>
    obtain ⟨rfl, ⟨rfl, rfl⟩ | ⟨rfl, hno, hb2⟩⟩ := hrel
    · obtain ⟨W2, hW2, hD, hb2, hs2⟩ := RwB.made W1 f
      go_upto_region 4 with (first | refine ld_row rfl _ rfl t 0 rfl f hT1.range ?_ | refine st_row rfl _ _ rfl W1.heap.size 0 f rfl rfl (RwB.zero W1).there ?_)
      rw [hW2]
      clear hW2
      try go_frame
      refine Dr.wp_region_plan 13 [] (.q [0, 1, 3, 4, 5, 6, 7, 8, 9, 10, 11] (.e1 2 (.q [12] .done))) (by kernel_rfl) (by kernel_rfl) ?_
      have hD3 : RwB W2.drew _ f := Blk.drew hD
      have hb3 := hb2.drew
      clear hb2 hD hs2
      generalize World.drew W2 = V at *
      have q0 := Dr.cell0 ((hB.ext hb3).cell (i := 0) rfl)
      have q1 := Dr.cell0 ((hF0.ext hb3).cell (i := 0) rfl)
      have q2 := Dr.cell0 ((h91.ext hb3).cell (i := 0) rfl)
      with_reducible refine Dr.plan_q (l := [_, _, _, _, _, _, _, _, _, _, _]) (by with_unfolding_all exact rfl) (fun K hK => ?_)
      iterate 1 (go_big_quiet_step (fail))
      refine ldq_row (by rfl) _ rfl W1.heap.size 0 rfl f (row_cls hD3 (by simp)) ?_
      go_frame
      iterate 9 (go_big_quiet_step (fail))
      refine wpQuiet_nil (hK _ ?_); clear hK K
      clear q0 q1 q2
      have hCM := CM.out V hb3
      refine Dr.plan_e rfl (by rfl) (fun K hK => ?_)
      go_wp2_with fail
      refine hCM.mono ?_; rintro e W4 ⟨rfl, hb4⟩
      refine hK _ _ (Dr.Bel.of hb4) ?_; clear hK K hCM
      have hb5 := ext_trans hb3 hb4
      with_reducible refine Dr.plan_q (l := [_]) (by with_unfolding_all exact rfl) (fun K hK => ?_)
      iterate 1 (go_big_quiet_step (fail))
      refine wpQuiet_nil (hK _ ?_); clear hK K
      refine Dr.plan_end rfl ?_
      have hD5 : RwB W4 _ f := Blk.ext hD3 hb4
      clear hD3 hb3 hb4
      have hP5 := hP.ext hb5
      have hR5 : RwB W4 (X + 2) _ := Blk.ext hR hb5
      have hx5 := hxw.trans (hb5.mono (by omega))
      have hsD := Blk.lt hD5
      by_cases hq : 9 < 2 * n
      · have hq1 : (1944000 : Int) < 216000 * (2 * n) := by omega
        have hq2 : decide (9 < 2 * n) = true := decide_eq_true hq
        have Hq2 := Lib.hid hq2
        clear hq hq2
        go_upto_region 5 with fail
        refine Dr.wp_region_plan 4 [X + 1, X + 2] (.q [0, 1, 2] (.e1 3 .done)) (by kernel_rfl) (by kernel_rfl) ?_
        have hP6 := hP5.drew
        have hR6 : RwB W4.drew _ _ := Blk.drew hR5
        have hD6 : RwB W4.drew _ _ := Blk.drew hD5
        have hx6 := hx5.drew
        clear hP5 hR5 hD5 hx5 hb5
        generalize World.drew W4 = V2 at *
        with_reducible refine Dr.plan_q (l := [_, _, _]) (by with_unfolding_all exact rfl) (fun K hK => ?_)
        iterate 2 (go_big_quiet_step (fail))
        refine ldq_row (by rfl) _ rfl W1.heap.size 0 rfl f (row_cls hD6 (by simp; omega)) ?_
        go_frame
        refine wpQuiet_nil (hK _ ?_); clear hK K
        refine Dr.plan_e rfl (by rfl) (fun K hK => ?_)
        refine wp_store_mid 76 _ _ rfl (X + 1) 0 #[.int .i64 (-1), .int .i64 0] rfl rfl (show V2.there (X + 1) 0 2 from blk_there hP6) (by kernel_rfl) (by kernel_rfl) ?_
        refine hK _ _ (bel_setCells (by simp) _ _ _) ?_; clear hK K
        go_frame
        have hP7 : Blk _ (X + 1) 76 [.int .i64 (-1), .int .i64 0] := Blk.setAll hP6 (r := [.int .i64 (-1), .int .i64 0]) rfl
        have hR7 : RwB _ (X + 2) (fun _ => 0) := Blk.apart (b := X + 1) (by omega) [.int .i64 (-1), .int .i64 0] 0 hR6
        have hx7 := below_setCells (b := X + 1) (by omega) [.int .i64 (-1), .int .i64 0] 0 hx6
        have hP8 := Blk.apart (b := X + 2) (by omega) (rwC f) 0 hP7
        have hR8 : RwB _ (X + 2) f := Blk.setAll hR7 (r := rwC f) (by rw [rwC_len, rwC_len])
        have hx8 := below_setCells (b := X + 2) (by omega) (rwC f) 0 hx7
        refine Dr.plan_done (tl := [_, _]) rfl ?_
        go_wp2_with (first | refine st_row rfl _ _ rfl (X + 2) 0 f rfl rfl hR7.there ?_)
        exact bodyPost_ret (res3 rfl _ _ (X + 1) (X + 2) (-1) 0 f (.bool true) rfl rfl rfl hP8 hR8) rfl ⟨-1, 0, f, by rw [Hq2.out], hXe ▸ hx8⟩
      · have hq1 : ¬ (1944000 : Int) < 216000 * (2 * n) := by omega
        have Hq := Lib.hid hq
        clear hq
        go_wp2
        go_roundw
        case rel => exact ⟨rfl, .inr ⟨rfl, Hq.out, hb5⟩⟩
        case measure => simp [intOf]
    · have hq2 : decide (9 < 2 * n) = false := decide_eq_false hno
      have Hq2 := Lib.hid hq2
      clear hno hq2 hL1 h91 hT1 CM
      have b0 : wr.cell? ⟨X, 0, none⟩ = _ := (hB.ext hb2).cell (i := 0) rfl
      have hCH := Lib.hid (CH.out wr hb2)
      have hPw := hP.ext hb2
      have hRw : RwB wr (X + 2) _ := Blk.ext hR hb2
      have hxw2 := hxw.trans (hb2.mono (by omega))
      clear hB hP hR hxw CH hF1 hF0 hb2
      go_wp2_with (first | (refine hCH.out.mono ?_; rintro e W2 ⟨rfl, hb2⟩; have hP2 := hPw.ext hb2; have hR2 : RwB W2 (X + 2) (fun _ => 0) := Blk.ext hRw hb2; have hx2 := hxw2.trans (hb2.mono (by have := hxw2.size; have := Blk.lt hRw; omega)); have p0 : W2.cell? ⟨X + 1, 0, none⟩ = _ := hP2.cell (i := 0) rfl; have p1 : W2.cell? ⟨X + 1, 1, none⟩ = _ := hP2.cell (i := 1) rfl; have g0 := hP2.free 0; have g1 := hP2.free 1; clear hb2 b0 hCH) | refine st_row rfl _ _ rfl (X + 2) 0 (fun _ => 0) rfl rfl (RwB.there (Blk.other (Blk.other hR2 (by simp) _) (by simp) _)) ?_)
      have hP3 := (hP2.set 0 (.int .i64 0)).set 1 (.int .i64 0)
      have hR3 : RwB _ (X + 2) (fun _ => 0) := Blk.other (Blk.other hR2 (p := ⟨X + 1, 0, none⟩) (by simp) (.int .i64 0)) (p := ⟨X + 1, 1, none⟩) (by simp) (.int .i64 0)
      have hP4 := Blk.apart (b := X + 2) (by omega) (rwC fun _ => 0) 0 hP3
      have hR4 : RwB _ (X + 2) (fun _ => 0) := Blk.setAll hR3 (r := rwC fun _ => 0) (by rw [rwC_len])
      have hx4 := below_setCells (b := X + 2) (by omega) (rwC fun _ => 0) 0 ((hx2.setCell (p := ⟨X + 1, 0, none⟩) (by simp) (.int .i64 0)).setCell (p := ⟨X + 1, 1, none⟩) (by simp) (.int .i64 0))
      exact bodyPost_ret (res3 rfl _ _ (X + 1) (X + 2) 0 0 (fun _ => 0) (.bool false) rfl rfl rfl hP4 hR4) rfl ⟨0, 0, fun _ => 0, by rw [Hq2.out], hXe ▸ hx4⟩
end Go.Proofs.YtilkoooahoecfaaGreat.Rg

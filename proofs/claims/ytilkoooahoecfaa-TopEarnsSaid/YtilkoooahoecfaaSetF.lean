/- Walk: Settle at a valid week. -/
import Derived.Test.YtilkoooahoecfaaSetE
namespace Go.Proofs.Ytilkoooahoecfaa
open Go.RowKit Go.Bs Go.Pu Go.Pl Go.Sort

/-- what Settle works on: the pay so far lies in block B4 -/
structure StI (w W0 W : World) (B4 : Nat) (A : Option Addr) (n c : Nat) (P : Int) (B : Option Addr) (m d : Nat) : Prop where
  bl : Below w.heap.size w W
  x : Blk W w.heap.size 45 [.slice A n c, .int .i64 P, .slice B m d]
  y : Blk W (w.heap.size + 1) 61 [.slice none 0 0, .slice none 0 0, .int .i64 0, .int .i64 0, .slice none 0 0, .slice none 0 0, .slice none 0 0, .int .i64 0]
theorem gross_td {x : Cty} (h : x.ok) : (x.takings * x.num).tdiv x.den = x.gross := Int.tdiv_eq_ediv_of_nonneg h.raw.1

set_option maxRecDepth 100000 in
set_option maxHeartbeats 4000000 in
theorem settle_ok (wk : Wk) (A B : Option Addr) (n c m d : Nat) (w : World) (hn : wk.ctys.length = n) (hm : wk.ctrs.length = m) (hA : Cells w A 4 Cty.enc wk.ctys) (hB : Cells w B 3 Ctr.enc wk.ctrs) (hok : wk.okB = true) :
    Calls Try.prog 13 #[wkV A n c wk.premium B m d] w fun e w' => ∃ v1 v2 v3 v4 v5, e = .returned (.tuple #[.agg #[v1, v2, .int .i64 wk.settle.premium, .int .i64 wk.settle.lacks, v3, v4, v5, .int .i64 wk.settle.rest], .int .i64 0]) ∧
      FreshL w w' 1 encI v1 wk.settle.gross ∧ FreshL w w' 1 encI v2 wk.settle.taxes ∧ FreshL w w' 1 encI v3 wk.settle.paid ∧ FreshL w w' 1 encI v4 wk.settle.short ∧ FreshL w w' 1 encI v5 wk.settle.extra ∧ Below w.heap.size w w' := by
  have hk := (wk.okB_iff).1 hok
  have hb0 := (ext_alloc w (.cells #[.slice A n c, .int .i64 wk.premium, .slice B m d] 45)).trans ((ext_alloc _ (.cells #[.slice none 0 0, .slice none 0 0, .int .i64 0, .int .i64 0, .slice none 0 0, .slice none 0 0, .slice none 0 0, .int .i64 0] 61)).mono (by simp))
  have hX := (Blk.new w 45 [.slice A n c, .int .i64 wk.premium, .slice B m d]).alloc (.cells #[.slice none 0 0, .slice none 0 0, .int .i64 0, .int .i64 0, .slice none 0 0, .slice none 0 0, .slice none 0 0, .int .i64 0] 61)
  have hY := Blk.new (w.alloc (.cells #[.slice A n c, .int .i64 wk.premium, .slice B m d] 45)) 61 [.slice none 0 0, .slice none 0 0, .int .i64 0, .int .i64 0, .slice none 0 0, .slice none 0 0, .slice none 0 0, .int .i64 0]
  rw [World.size_alloc] at hY
  have hsz : ((w.alloc (.cells #[.slice A n c, .int .i64 wk.premium, .slice B m d] 45)).alloc (.cells #[.slice none 0 0, .slice none 0 0, .int .i64 0, .int .i64 0, .slice none 0 0, .slice none 0 0, .slice none 0 0, .int .i64 0] 61)).heap.size = w.heap.size + 2 := by simp
  have C1 := Lib.hid (fun W (hb : Below w.heap.size w W) => wvalid_any wk A B n c m d W hn hm (by have := hk.n; omega) (by have := hk.m; omega) (hA.ext hb) (hB.ext hb))
  unfold wkV at C1 ⊢
  rw [hok] at C1
  have Hn := Lib.hid hn
  have Hm := Lib.hid hm
  have Hk := Lib.hid hk
  have hn8 := hk.n
  have hm20 := hk.m
  have hpr := hk.pr
  rw [hn] at hn8
  rw [hm] at hm20
  clear hn hm hok hk
  generalize hS : wk.settle = S
  have HS := Lib.hid hS
  clear hS
  generalize hprem : wk.premium = prem at *
  have Hprem := Lib.hid hprem
  clear hprem
  go_enter Try.func13, Try.ntmps13
  go_upto_region 1 with fail
  change Blk ((w.alloc (.cells #[.slice A n c, .int .i64 prem, .slice B m d] 45)).alloc (.cells #[.slice none 0 0, .slice none 0 0, .int .i64 0, .int .i64 0, .slice none 0 0, .slice none 0 0, .slice none 0 0, .int .i64 0] 61)) (w.heap.size + 1) 61 _ at hY
  generalize (w.alloc (.cells #[.slice A n c, .int .i64 prem, .slice B m d] 45)).alloc (.cells #[.slice none 0 0, .slice none 0 0, .int .i64 0, .int .i64 0, .slice none 0 0, .slice none 0 0, .slice none 0 0, .int .i64 0] 61) = W0 at *
  have x0 : W0.cell? ⟨w.heap.size, 0, none⟩ = _ := hX.cell rfl
  have x1 : W0.cell? ⟨w.heap.size, 1, none⟩ = _ := hX.cell rfl
  have x2 : W0.cell? ⟨w.heap.size, 2, none⟩ = _ := hX.cell rfl
  go_wp2_with fail
  refine (C1.out _ hb0).mono ?_; rintro e w1 ⟨rfl, hb1⟩
  have hs1 := hb1.size
  have hX1 := hX.ext hb1
  have hY1 := hY.ext hb1
  have hb2 := ext_trans hb0 hb1
  clear x0 x1 x2 hX hY hb0 hb1 C1
  go_upto_region 4 with fail
  have hZ := Blk.new w1 61 [.slice none 0 0, .slice none 0 0, .int .i64 0, .int .i64 0, .slice none 0 0, .slice none 0 0, .slice none 0 0, .int .i64 0]
  have hX2 := hX1.alloc (.cells #[.slice none 0 0, .slice none 0 0, .int .i64 0, .int .i64 0, .slice none 0 0, .slice none 0 0, .slice none 0 0, .int .i64 0] 61)
  have hY2 := hY1.alloc (.cells #[.slice none 0 0, .slice none 0 0, .int .i64 0, .int .i64 0, .slice none 0 0, .slice none 0 0, .slice none 0 0, .int .i64 0] 61)
  have hb3 := ext_trans hb2 (ext_alloc w1 (.cells #[.slice none 0 0, .slice none 0 0, .int .i64 0, .int .i64 0, .slice none 0 0, .slice none 0 0, .slice none 0 0, .int .i64 0] 61))
  have hs2 : (w1.alloc (.cells #[.slice none 0 0, .slice none 0 0, .int .i64 0, .int .i64 0, .slice none 0 0, .slice none 0 0, .slice none 0 0, .int .i64 0] 61)).heap.size = w1.heap.size + 1 := by simp
  change Blk (w1.alloc (.cells #[.slice none 0 0, .slice none 0 0, .int .i64 0, .int .i64 0, .slice none 0 0, .slice none 0 0, .slice none 0 0, .int .i64 0] 61)) _ _ _ at hZ
  generalize w1.alloc (.cells #[.slice none 0 0, .slice none 0 0, .int .i64 0, .int .i64 0, .slice none 0 0, .slice none 0 0, .slice none 0 0, .int .i64 0] 61) = W2 at *
  generalize w1.heap.size = B4 at *
  clear hX1 hY1 hb2
  have hA2 := hA.ext hb3
  have hB2 := hB.ext hb3
  have hAne : ∀ k, A.map (·.block) = some k → k ∉ [B4] := fun k hk => by
    obtain ⟨b, off, e, hlt, -⟩ := hA.at4 (k := 0) (by rw [Hn.out]; omega) rfl
    subst e; simp at hk; subst hk; simp; omega
  have hBne : ∀ k, B.map (·.block) = some k → 0 < m → k ∉ [B4] := fun k hk h0 => by
    obtain ⟨b, off, e, hlt, -⟩ := hB.at3 (k := 0) (by rw [Hm.out]; exact h0) rfl
    subst e; simp at hk; subst hk; simp; omega
  have hB0 := hB
  clear hA hB
  have x0 : W2.cell? ⟨w.heap.size, 0, none⟩ = _ := hX2.cell rfl
  go_wp2
  clear x0
  go_loopw [6, 7, 22] (fun _ _ x wr => ∃ (k : Nat) (v u : Value), x = .int .i64 k ∧ k ≤ n ∧ OwnL wr W2.heap.size 3 1 encI v ((wk.ctys.take k).map Cty.gross) ∧ OwnL wr W2.heap.size 3 1 encI u ((wk.ctys.take k).map Cty.taxes) ∧ Hid (v.ownBlock = none ∨ u.ownBlock = none ∨ v.ownBlock ≠ u.ownBlock) ∧
    Blk wr B4 61 [v, u, .int .i64 0, .int .i64 0, .slice none 0 0, .slice none 0 0, .slice none 0 0, .int .i64 0] ∧ Dr.Bel [B4] W2 wr) (fun _ _ x _ => n - (intOf x).toNat)
  case atStart => exact ⟨0, _, _, rfl, by omega, OwnL.nil, OwnL.nil, Lib.hid (.inl rfl), hZ, Dr.Bel.refl _ _⟩
  case round =>
    clear hZ
    obtain ⟨k, v, u, rfl, hk, hov, hou, Hne, hZ, hb⟩ := hrel
    by_cases hlt : k < n
    · have hlt' : (k : Int) < (n : Int) := by omega
      have hkl : k < wk.ctys.length := by rw [Hn.out]; exact hlt
      obtain ⟨b, off, rfl, -, c0, c1, c2, c3⟩ := (cells_bel hA2 hb hAne).at4 hkl rfl
      have Ht := Lib.hid (List.take_succ_eq_append_getElem hkl)
      have hck := Hk.out.yok _ (List.getElem_mem hkl)
      generalize wk.ctys[k] = x at *
      have h1 := hck.raw
      have h2 := hck.de
      have h3 := hck.raw2
      have Hg := Lib.hid (gross_td hck)
      have h4 := hck.gross
      go_upto_region 8 with fail
      have hU := Blk.new wr 55 [.int .i64 x.takings, .int .i64 x.num, .int .i64 x.den, .int .i64 x.tax]
      have hZ' := hZ.alloc (.cells #[.int .i64 x.takings, .int .i64 x.num, .int .i64 x.den, .int .i64 x.tax] 55)
      have hov' := hov.alloc (.cells #[.int .i64 x.takings, .int .i64 x.num, .int .i64 x.den, .int .i64 x.tax] 55)
      have hou' := hou.alloc (.cells #[.int .i64 x.takings, .int .i64 x.num, .int .i64 x.den, .int .i64 x.tax] 55)
      have hb' := hb.then_below ((ext_alloc wr (.cells #[.int .i64 x.takings, .int .i64 x.num, .int .i64 x.den, .int .i64 x.tax] 55)).mono hb.size)
      change Blk (wr.alloc (.cells #[.int .i64 x.takings, .int .i64 x.num, .int .i64 x.den, .int .i64 x.tax] 55)) _ _ _ at hU
      have hUs : (wr.alloc (.cells #[.int .i64 x.takings, .int .i64 x.num, .int .i64 x.den, .int .i64 x.tax] 55)).heap.size = wr.heap.size + 1 := by simp
      generalize wr.alloc (.cells #[.int .i64 x.takings, .int .i64 x.num, .int .i64 x.den, .int .i64 x.tax] 55) = W3 at *
      have Hl1 := Lib.hid (show (wk.ctys.take k).map Cty.gross ++ [x.gross] = (wk.ctys.take (k + 1)).map Cty.gross by rw [Ht.out, List.map_append]; rfl)
      have Hl2 := Lib.hid (show (wk.ctys.take k).map Cty.taxes ++ [x.taxes] = (wk.ctys.take (k + 1)).map Cty.taxes by rw [Ht.out, List.map_append]; rfl)
      have htx : (x.gross * x.tax + 1000 - 1) / 1000 = x.taxes := by unfold Cty.taxes; congr 1; omega
      have Htx := Lib.hid htx
      clear htx
      rw [show x.takings * x.num / x.den = x.gross from rfl]
      generalize hgv : v.ownBlock.getD W3.heap.size = gv
      generalize hgu : u.ownBlock.getD W3.heap.size = gu
      have n1 : B4 ≠ gv := getD_own hov' (by omega) hb'.size hgv.symm
      have n2 : B4 ≠ gu := getD_own hou' (by omega) hb'.size hgu.symm
      have n3 : wr.heap.size ≠ gv := getD_ne hov (by omega) hgv.symm
      have n4 : wr.heap.size ≠ gu := getD_ne hou (by omega) hgu.symm
      have two0 := Two.of hov' hou' Hne.out
      rw [hgv, hgu] at two0
      refine Dr.wp_region_plan 17 [gv, gu] (.q [0, 1, 2, 5, 6, 7, 8, 9, 10, 11, 12, 13] (.e2 3 (.e2 4 (.q [16] (.e1 14 (.e1 15 .done))) 14 (.e1 4 (.q [16] (.e1 15 .done)))) 14 (.e1 3 (.e1 4 (.q [16] (.e1 15 .done)))))) (by kernel_rfl) (by kernel_rfl) ?_
      have two := two0.ext (ext_drew W3)
      have hZ := hZ'.drew
      have hb := hb'.then_below ((ext_drew W3).mono hb'.size)
      have hUd := hU.drew
      clear hUs two0 hZ' hb' hU hov hou hov' hou' hgv hgu c0 c1 c2 c3
      generalize W3.drew = W at *
      have q0 := Dr.cls_cell (M := [gv, gu]) (hZ.cell (i := 0) rfl) (by simp; omega)
      have q1 := Dr.cls_cell (M := [gv, gu]) (hZ.cell (i := 1) rfl) (by simp; omega)
      have q2 := Dr.cls_cell (M := [gv, gu]) (hUd.cell (i := 3) rfl) (by simp; omega)
      refine Dr.plan_q (l := [_, _, _, _, _, _, _, _, _, _, _, _]) rfl (fun K hK => ?_)
      iterate 12 (go_big_quiet_step (fail))
      refine wpQuiet_nil (hK _ ?_); clear hK K
      clear q0 q1 q2
      rw [Htx.out]
      refine Dr.plan_e2 ?_ ?_
      · refine Dr.plan_e rfl (by rfl) (fun K hK => ?_)
        go_wp2_with fail
        refine hK _ _ (.of (ext_alloc _ _)) ?_; clear hK K
        have nw1 := Blk.new W 3 [.int .i64 x.gross]
        have two1 := two.alloc (.cells #[.int .i64 x.gross] 3)
        have hZ1 := hZ.alloc (.cells #[.int .i64 x.gross] 3)
        have hb1 := hb.then_below ((ext_alloc W (.cells #[.int .i64 x.gross] 3)).mono hb.size)
        have nv1 : ∀ k, Value.ownBlock _ = some k → k ≠ W.heap.size := fun k hk => by have := (two.ov.lt hk).2; omega
        change Blk (W.alloc (.cells #[.int .i64 x.gross] 3)) _ _ _ at nw1
        generalize W.alloc (.cells #[.int .i64 x.gross] 3) = X1 at *
        generalize W.heap.size = N1 at *
        refine Dr.plan_e2 ?_ ?_
        · refine Dr.plan_e rfl (by rfl) (fun K hK => ?_)
          refine wp_app1 encI 59 3 1 8 et27 (by decide) (by decide) encI_len encI_one _ _ rfl W2.heap.size _ ((wk.ctys.take k).map Cty.gross) rfl two1.ov N1 rfl x.gross (encI_cell (nw1.cell rfl)) (by simp; omega) hb1.size ?_
          intro g2 c2 X2 ho2 hbl2 hgr2 hat2
          refine hK _ _ (bel_grown hgr2 two1.hv (by simp)) ?_; clear hK K
          go_frame
          have two2 := two1.app ho2 hgr2 hat2
          have hZ2 := hZ1.under hbl2 (by omega)
          have hb2 := hb1.then_below hbl2
          refine Dr.plan_q (l := [_]) rfl (fun K hK => ?_)
          iterate 1 (go_big_quiet_step (fail))
          refine wpQuiet_nil (hK _ ?_); clear hK K
          refine Dr.plan_e rfl (by rfl) (fun K hK => ?_)
          go_wp2_with fail
          refine hK _ _ (.of (ext_alloc _ _)) ?_; clear hK K
          have nw4 := Blk.new X2 3 [.int .i64 x.taxes]
          have two4 := two2.alloc (.cells #[.int .i64 x.taxes] 3)
          have hZ4 := hZ2.alloc (.cells #[.int .i64 x.taxes] 3)
          have hb4 := hb2.then_below ((ext_alloc X2 (.cells #[.int .i64 x.taxes] 3)).mono hb2.size)
          have nv4 : ∀ k, Value.ownBlock _ = some k → k ≠ X2.heap.size := fun k hk => by have := (two2.ov.lt hk).2; omega
          change Blk (X2.alloc (.cells #[.int .i64 x.taxes] 3)) _ _ _ at nw4
          generalize X2.alloc (.cells #[.int .i64 x.taxes] 3) = X4 at *
          generalize X2.heap.size = N4 at *
          refine Dr.plan_e rfl (by rfl) (fun K hK => ?_)
          refine wp_app1 encI 59 3 1 8 et27 (by decide) (by decide) encI_len encI_one _ _ rfl W2.heap.size _ ((wk.ctys.take k).map Cty.taxes) rfl two4.ou N4 rfl x.taxes (encI_cell (nw4.cell rfl)) (by simp; omega) hb4.size ?_
          intro g5 c5 X5 ho5 hbl5 hgr5 hat5
          refine hK _ _ (bel_grown hgr5 two4.hu (by simp)) ?_; clear hK K
          go_frame
          have two5 := (two4.swap.app ho5 hgr5 hat5).swap
          have hZ5 := hZ4.under hbl5 (by omega)
          have hb5 := hb4.then_below hbl5
          refine Dr.plan_done (tl := [_, _, _]) rfl ?_
          have f0 := hZ5.free 0
          have f1 := hZ5.free 1
          have z0 : X5.cell? ⟨B4, 0, none⟩ = _ := hZ5.cell rfl
          have z1 : X5.cell? ⟨B4, 1, none⟩ = _ := hZ5.cell rfl
          go_wp2
          go_roundw
          case rel => exact ⟨k + 1, _, _, by go_num, by omega, by rw [← Hl1.out]; exact (two5.ov.setCell (p := ⟨B4, 0, none⟩) (by simp; omega) _).setCell (p := ⟨B4, 1, none⟩) (by simp; omega) _, by rw [← Hl2.out]; exact (two5.ou.setCell (p := ⟨B4, 0, none⟩) (by simp; omega) _).setCell (p := ⟨B4, 1, none⟩) (by simp; omega) _, Lib.hid two5.ne, by simpa using (hZ5.set 0 _).set 1 _, (hb5.put (by simp) _).put (by simp) _⟩
          case measure => simp [intOf]; omega
        · refine Dr.plan_e rfl (by rfl) (fun K hK => ?_)
          go_wp2_with fail
          refine hK _ _ (.of (ext_alloc _ _)) ?_; clear hK K
          have nw2 := Blk.new X1 3 [.int .i64 x.taxes]
          have two2 := two1.alloc (.cells #[.int .i64 x.taxes] 3)
          have hZ2 := hZ1.alloc (.cells #[.int .i64 x.taxes] 3)
          have hb2 := hb1.then_below ((ext_alloc X1 (.cells #[.int .i64 x.taxes] 3)).mono hb1.size)
          have nv2 : ∀ k, Value.ownBlock _ = some k → k ≠ X1.heap.size := fun k hk => by have := (two1.ov.lt hk).2; omega
          change Blk (X1.alloc (.cells #[.int .i64 x.taxes] 3)) _ _ _ at nw2
          have nw21 := nw1.alloc (.cells #[.int .i64 x.taxes] 3)
          generalize X1.alloc (.cells #[.int .i64 x.taxes] 3) = X2 at *
          generalize X1.heap.size = N2 at *
          refine Dr.plan_e rfl (by rfl) (fun K hK => ?_)
          refine wp_app1 encI 59 3 1 8 et27 (by decide) (by decide) encI_len encI_one _ _ rfl W2.heap.size _ ((wk.ctys.take k).map Cty.gross) rfl two2.ov N1 rfl x.gross (encI_cell (nw21.cell rfl)) (by simp; omega) hb2.size ?_
          intro g3 c3 X3 ho3 hbl3 hgr3 hat3
          refine hK _ _ (bel_grown hgr3 two2.hv (by simp)) ?_; clear hK K
          go_frame
          have two3 := two2.app ho3 hgr3 hat3
          have hZ3 := hZ2.under hbl3 (by omega)
          have hb3 := hb2.then_below hbl3
          have nw32 : Blk X3 _ _ _ := (hgr3.block _ nw2.lt (fun e => nv2 _ e.symm rfl)).trans nw2
          refine Dr.plan_q (l := [_]) rfl (fun K hK => ?_)
          iterate 1 (go_big_quiet_step (fail))
          refine wpQuiet_nil (hK _ ?_); clear hK K
          refine Dr.plan_e rfl (by rfl) (fun K hK => ?_)
          refine wp_app1 encI 59 3 1 8 et27 (by decide) (by decide) encI_len encI_one _ _ rfl W2.heap.size _ ((wk.ctys.take k).map Cty.taxes) rfl two3.ou N2 rfl x.taxes (encI_cell (nw32.cell rfl)) (by simp; omega) hb3.size ?_
          intro g5 c5 X5 ho5 hbl5 hgr5 hat5
          refine hK _ _ (bel_grown hgr5 two3.hu (by simp)) ?_; clear hK K
          go_frame
          have two5 := (two3.swap.app ho5 hgr5 hat5).swap
          have hZ5 := hZ3.under hbl5 (by omega)
          have hb5 := hb3.then_below hbl5
          refine Dr.plan_done (tl := [_, _, _]) rfl ?_
          have f0 := hZ5.free 0
          have f1 := hZ5.free 1
          have z0 : X5.cell? ⟨B4, 0, none⟩ = _ := hZ5.cell rfl
          have z1 : X5.cell? ⟨B4, 1, none⟩ = _ := hZ5.cell rfl
          go_wp2
          go_roundw
          case rel => exact ⟨k + 1, _, _, by go_num, by omega, by rw [← Hl1.out]; exact (two5.ov.setCell (p := ⟨B4, 0, none⟩) (by simp; omega) _).setCell (p := ⟨B4, 1, none⟩) (by simp; omega) _, by rw [← Hl2.out]; exact (two5.ou.setCell (p := ⟨B4, 0, none⟩) (by simp; omega) _).setCell (p := ⟨B4, 1, none⟩) (by simp; omega) _, Lib.hid two5.ne, by simpa using (hZ5.set 0 _).set 1 _, (hb5.put (by simp) _).put (by simp) _⟩
          case measure => simp [intOf]; omega
      · refine Dr.plan_e rfl (by rfl) (fun K hK => ?_)
        go_wp2_with fail
        refine hK _ _ (.of (ext_alloc _ _)) ?_; clear hK K
        have nw1 := Blk.new W 3 [.int .i64 x.taxes]
        have two1 := two.alloc (.cells #[.int .i64 x.taxes] 3)
        have hZ1 := hZ.alloc (.cells #[.int .i64 x.taxes] 3)
        have hb1 := hb.then_below ((ext_alloc W (.cells #[.int .i64 x.taxes] 3)).mono hb.size)
        have nv1 : ∀ k, Value.ownBlock _ = some k → k ≠ W.heap.size := fun k hk => by have := (two.ov.lt hk).2; omega
        change Blk (W.alloc (.cells #[.int .i64 x.taxes] 3)) _ _ _ at nw1
        generalize W.alloc (.cells #[.int .i64 x.taxes] 3) = X1 at *
        generalize W.heap.size = N1 at *
        refine Dr.plan_e rfl (by rfl) (fun K hK => ?_)
        go_wp2_with fail
        refine hK _ _ (.of (ext_alloc _ _)) ?_; clear hK K
        have nw2 := Blk.new X1 3 [.int .i64 x.gross]
        have two2 := two1.alloc (.cells #[.int .i64 x.gross] 3)
        have hZ2 := hZ1.alloc (.cells #[.int .i64 x.gross] 3)
        have hb2 := hb1.then_below ((ext_alloc X1 (.cells #[.int .i64 x.gross] 3)).mono hb1.size)
        have nv2 : ∀ k, Value.ownBlock _ = some k → k ≠ X1.heap.size := fun k hk => by have := (two1.ov.lt hk).2; omega
        change Blk (X1.alloc (.cells #[.int .i64 x.gross] 3)) _ _ _ at nw2
        have nw21 := nw1.alloc (.cells #[.int .i64 x.gross] 3)
        generalize X1.alloc (.cells #[.int .i64 x.gross] 3) = X2 at *
        generalize X1.heap.size = N2 at *
        refine Dr.plan_e rfl (by rfl) (fun K hK => ?_)
        refine wp_app1 encI 59 3 1 8 et27 (by decide) (by decide) encI_len encI_one _ _ rfl W2.heap.size _ ((wk.ctys.take k).map Cty.gross) rfl two2.ov N2 rfl x.gross (encI_cell (nw2.cell rfl)) (by simp; omega) hb2.size ?_
        intro g3 c3 X3 ho3 hbl3 hgr3 hat3
        refine hK _ _ (bel_grown hgr3 two2.hv (by simp)) ?_; clear hK K
        go_frame
        have two3 := two2.app ho3 hgr3 hat3
        have hZ3 := hZ2.under hbl3 (by omega)
        have hb3 := hb2.then_below hbl3
        have nw31 : Blk X3 _ _ _ := (hgr3.block _ nw21.lt (fun e => nv1 _ e.symm rfl)).trans nw21
        refine Dr.plan_q (l := [_]) rfl (fun K hK => ?_)
        iterate 1 (go_big_quiet_step (fail))
        refine wpQuiet_nil (hK _ ?_); clear hK K
        refine Dr.plan_e rfl (by rfl) (fun K hK => ?_)
        refine wp_app1 encI 59 3 1 8 et27 (by decide) (by decide) encI_len encI_one _ _ rfl W2.heap.size _ ((wk.ctys.take k).map Cty.taxes) rfl two3.ou N1 rfl x.taxes (encI_cell (nw31.cell rfl)) (by simp; omega) hb3.size ?_
        intro g5 c5 X5 ho5 hbl5 hgr5 hat5
        refine hK _ _ (bel_grown hgr5 two3.hu (by simp)) ?_; clear hK K
        go_frame
        have two5 := (two3.swap.app ho5 hgr5 hat5).swap
        have hZ5 := hZ3.under hbl5 (by omega)
        have hb5 := hb3.then_below hbl5
        refine Dr.plan_done (tl := [_, _, _]) rfl ?_
        have f0 := hZ5.free 0
        have f1 := hZ5.free 1
        have z0 : X5.cell? ⟨B4, 0, none⟩ = _ := hZ5.cell rfl
        have z1 : X5.cell? ⟨B4, 1, none⟩ = _ := hZ5.cell rfl
        go_wp2
        go_roundw
        case rel => exact ⟨k + 1, _, _, by go_num, by omega, by rw [← Hl1.out]; exact (two5.ov.setCell (p := ⟨B4, 0, none⟩) (by simp; omega) _).setCell (p := ⟨B4, 1, none⟩) (by simp; omega) _, by rw [← Hl2.out]; exact (two5.ou.setCell (p := ⟨B4, 0, none⟩) (by simp; omega) _).setCell (p := ⟨B4, 1, none⟩) (by simp; omega) _, Lib.hid two5.ne, by simpa using (hZ5.set 0 _).set 1 _, (hb5.put (by simp) _).put (by simp) _⟩
        case measure => simp [intOf]; omega
    · obtain rfl : k = n := by omega
      rw [List.take_of_length_le (by rw [Hn.out]; omega)] at hov hou
      go_upto_region 10 with fail
      obtain ⟨v1, v2, hv1, hv2, hv3, hv4⟩ := hov.cells encI_len
      obtain ⟨u1, u2, hu1, hu2, hu3, hu4⟩ := hou.cells encI_len
      have hfv : FreshL W2 wr 1 encI v (wk.ctys.map Cty.gross) := FreshL.of_own hov encI_len (Nat.le_refl _)
      have hfu : FreshL W2 wr 1 encI u (wk.ctys.map Cty.taxes) := FreshL.of_own hou encI_len (Nat.le_refl _)
      have hsum := Hk.out.sums
      have hpot := Hk.out.pot
      have S1 := Lib.hid (fun W hc => sum_any v1 k v2 (wk.ctys.map Cty.gross) W (by simpa using Hn.out) (by omega) hc (fun y hy => by obtain ⟨x, hx, rfl⟩ := List.mem_map.1 hy; have := (Hk.out.yok x hx).gross; omega))
      have S2 := Lib.hid (fun W hc => sum_any u1 k u2 (wk.ctys.map Cty.taxes) W (by simpa using Hn.out) (by omega) hc (fun y hy => by obtain ⟨x, hx, rfl⟩ := List.mem_map.1 hy; have := (Hk.out.yok x hx).gross; have := (Hk.out.yok x hx).taxes; omega))
      rw [show (wk.ctys.map Cty.gross).length = k by simpa using Hn.out] at hv1
      rw [show (wk.ctys.map Cty.taxes).length = k by simpa using Hn.out] at hu1
      have hpe : isum (wk.ctys.map Cty.gross) - isum (wk.ctys.map Cty.taxes) = wk.pot := rfl
      generalize isum (wk.ctys.map Cty.gross) = sg at *
      generalize isum (wk.ctys.map Cty.taxes) = st at *
      generalize hpt : wk.pot = pot at *
      have Hpt := Lib.hid hpt
      have Hpe := Lib.hid hpe
      clear hpt hpe hov hou Hne hA2 hAne
      subst hv1 hu1
      refine Dr.wp_region_plan 10 [] (.q [0, 1, 3, 4] (.e1 2 (.e1 5 (.q [6, 7] (.e1 8 (.q [9] .done)))))) (by kernel_rfl) (by kernel_rfl) ?_
      have hb5 := hb.then_below ((ext_drew wr).mono hb.size)
      have hZ5 := hZ.drew
      have hv5 := hv4.ext (ext_drew wr)
      have hu5 := hu4.ext (ext_drew wr)
      have hfv5 := hfv.ext (ext_drew wr)
      have hfu5 := hfu.ext (ext_drew wr)
      clear hb hZ hv4 hu4 hfv hfu
      generalize World.drew _ = W at *
      have q0 := Dr.cell0 (hZ5.cell (i := 0) rfl)
      have q1 := Dr.cell0 (hZ5.cell (i := 1) rfl)
      refine Dr.plan_q (l := [_, _, _, _]) rfl (fun K hK => ?_)
      iterate 4 (go_big_quiet_step (fail))
      refine wpQuiet_nil (hK _ ?_); clear hK K
      refine Dr.plan_e rfl (by rfl) (fun K hK => ?_)
      go_wp2_with fail
      refine (S1.out _ hv5).mono ?_; rintro e w2 ⟨rfl, rfl⟩
      refine hK _ _ (.refl _ _) ?_; clear hK K
      refine Dr.plan_e rfl (by rfl) (fun K hK => ?_)
      go_wp2_with fail
      refine (S2.out _ hu5).mono ?_; rintro e w2 ⟨rfl, rfl⟩
      refine hK _ _ (.refl _ _) ?_; clear hK K
      refine Dr.plan_q (l := [_, _]) rfl (fun K hK => ?_)
      iterate 2 (go_big_quiet_step (fail))
      refine wpQuiet_nil (hK _ ?_); clear hK K
      refine Dr.plan_e rfl (by rfl) (fun K hK => ?_)
      go_wp2_with fail
      refine hK _ _ (.of (ext_alloc _ _)) ?_; clear hK K
      refine Dr.plan_q (l := [_]) rfl (fun K hK => ?_)
      iterate 1 (go_big_quiet_step (fail))
      refine wpQuiet_nil (hK _ ?_); clear hK K
      refine Dr.plan_end rfl ?_
      rw [Hpe.out]
      clear q0 q1 S1 S2
      have hXW := hb5.blk hX2 (by simp; omega)
      have hYW := hb5.blk hY2 (by simp; omega)
      have hp := Blk.new W 110 [.int .i64 pot]
      have hZ6 := hZ5.alloc (.cells #[.int .i64 pot] 110)
      have hbW : Dr.Bel [B4] W (W.alloc (.cells #[.int .i64 pot] 110)) := .of (ext_alloc _ _)
      change Blk (W.alloc (.cells #[.int .i64 pot] 110)) _ _ _ at hp
      have hWs : (W.alloc (.cells #[.int .i64 pot] 110)).heap.size = W.heap.size + 1 := by simp
      generalize W.alloc (.cells #[.int .i64 pot] 110) = W3 at *
      have hX3 := hbW.blk hXW (by simp; omega)
      have x1 : W3.cell? ⟨w.heap.size, 1, none⟩ = _ := hX3.cell rfl
      have hWB : B4 < W.heap.size := hZ5.lt
      have HWs := Lib.hid hWs
      clear hWs
      have hWlt : w.heap.size < W.heap.size := hXW.lt
      generalize hBp : W.heap.size = Bp at *
      have HBp := Lib.hid hBp
      clear hBp
      go_wp2_with fail
      refine (pay_any Bp pot prem W3 (by omega) (by omega) hp).mono ?_; rintro e w4 ⟨rfl, hw4⟩
      have hp4 : Blk w4 Bp 110 [.int .i64 (pot - min pot prem)] := by rw [hw4]; exact hp.set 0 _
      have hZ7 := hZ6.other (p := ⟨Bp, 0, none⟩) (by simp; omega) (.int .i64 (pot - min pot prem))
      rw [← hw4] at hZ7
      have hbW4 : Dr.Bel [B4] W w4 := by rw [hw4]; exact hbW.then_below (by rw [HBp.out]; exact (Below.refl Bp W3).setCell (Nat.le_refl _) _)
      clear hw4 hp hZ6 hbW hX3 x1
      have hX4 := hbW4.blk hXW (by simp; omega)
      have x1 : w4.cell? ⟨w.heap.size, 1, none⟩ = _ := hX4.cell rfl
      have x2 : w4.cell? ⟨w.heap.size, 2, none⟩ = _ := hX4.cell rfl
      have z2 : w4.cell? ⟨B4, 2, none⟩ = _ := hZ7.cell rfl
      have z3 : w4.cell? ⟨B4, 3, none⟩ = _ := hZ7.cell rfl
      have f2 := hZ7.free 2
      have f3 := hZ7.free 3
      have hne1 : w.heap.size ≠ B4 := by omega
      have hne2 : B4 ≠ w.heap.size := by omega
      go_upto_region 15 with fail
      have hZ8 := (hZ7.set 2 (.int .i64 (min pot prem))).set 3 (.int .i64 (prem - min pot prem))
      have hp8 := (hp4.other (p := ⟨B4, 2, none⟩) (by simp; omega) (.int .i64 (min pot prem))).other (p := ⟨B4, 3, none⟩) (by simp; omega) (.int .i64 (prem - min pot prem))
      have hb8 := (hbW4.put (p := ⟨B4, 2, none⟩) (by simp) (.int .i64 (min pot prem))).put (p := ⟨B4, 3, none⟩) (by simp) (.int .i64 (prem - min pot prem))
      have hs8 := hbW4.size
      simp only [List.set] at hZ8
      clear x1 x2 z2 z3 f2 f3 hX4 hZ7 hp4
      generalize (w4.setCell ⟨B4, 2, none⟩ (.int .i64 (min pot prem))).setCell ⟨B4, 3, none⟩ (.int .i64 (prem - min pot prem)) = W5 at *
      have hpr5 : min pot prem = wk.prem := by rw [← Hpt.out, ← Hprem.out]; rfl
      rw [hpr5] at hZ8 hp8
      have hlt8 : Bp < W5.heap.size := hp8.lt
      have hmk := fun w => mk27n m (by omega) w
      go_cut [] (fun W' => ∃ g1 g2 g3, Blk W' B4 61 [.slice v1 k v2, .slice u1 k u2, .int .i64 wk.prem, .int .i64 (prem - wk.prem), .slice (some ⟨g1, 0, none⟩) m m, .slice (some ⟨g2, 0, none⟩) m m, .slice (some ⟨g3, 0, none⟩) m m, .int .i64 0] ∧
        (W5.heap.size ≤ g1 ∧ IArr W' g1 3 (tab m fun _ => 0)) ∧ (W5.heap.size ≤ g2 ∧ IArr W' g2 3 (tab m fun _ => 0)) ∧ (W5.heap.size ≤ g3 ∧ IArr W' g3 3 (tab m fun _ => 0)) ∧ g1 ≠ g2 ∧ g1 ≠ g3 ∧ g2 ≠ g3 ∧ Dr.Bel [B4] W5 W')
      case first =>
        refine Dr.wp_region_plan 11 [B4] (.q [0, 2, 4] (.e3 1 (.q [6] (.e3 3 (.e2 5 (.e1 7 (.q [8] (.e1 9 (.q [10] .done)))) 7 (.q [8] (.e2 5 (.e1 9 (.q [10] .done)) 9 (.e1 5 (.q [10] .done))))) 5 (.e2 3 (.e1 7 (.q [8] (.e1 9 (.q [10] .done)))) 7 (.e1 3 (.q [8] (.e1 9 (.q [10] .done))))) 7 (.e2 3 (.q [8] (.e2 5 (.e1 9 (.q [10] .done)) 9 (.e1 5 (.q [10] .done)))) 5 (.e1 3 (.q [8] (.e1 9 (.q [10] .done))))))) 3 (.e2 1 (.q [6] (.e2 5 (.e1 7 (.q [8] (.e1 9 (.q [10] .done)))) 7 (.q [8] (.e2 5 (.e1 9 (.q [10] .done)) 9 (.e1 5 (.q [10] .done)))))) 5 (.e1 1 (.q [6] (.e1 7 (.q [8] (.e1 9 (.q [10] .done))))))) 5 (.e2 1 (.q [6] (.e2 3 (.e1 7 (.q [8] (.e1 9 (.q [10] .done)))) 7 (.e1 3 (.q [8] (.e1 9 (.q [10] .done)))))) 3 (.e1 1 (.q [6] (.e1 7 (.q [8] (.e1 9 (.q [10] .done))))))))) (by kernel_rfl) (by kernel_rfl) ?_
        have hZ := hZ8.drew
        have hb : Dr.Bel [B4] W5 W5.drew := .of (ext_drew W5)
        have zs := Zs.nil W5 W5.drew m 3
        clear hZ8 hp8 hb8
        generalize W5.drew = W at *
        refine Dr.plan_q (l := [_, _, _]) rfl (fun K hK => ?_)
        iterate 3 (go_big_quiet_step (fail))
        refine wpQuiet_nil (hK _ ?_); clear hK K
        refine Dr.plan_e3 ?_ ?_ ?_
        · refine Dr.plan_e rfl (by rfl) (fun K hK => ?_)
          go_wp2_with fail
          refine hK _ _ (.of (ext_alloc _ _)) ?_; clear hK K
          have zs1 := zs.mk1 hb.size
          have hZ1 := hZ.alloc (.cells ((tab m fun _ => 0).map (Value.int .i64)).toArray 3)
          have hb1 := hb.then_below ((ext_alloc W (.cells ((tab m fun _ => 0).map (Value.int .i64)).toArray 3)).mono hb.size)
          generalize W.alloc (.cells ((tab m fun _ => 0).map (Value.int .i64)).toArray 3) = X1 at *
          generalize W.heap.size = N1 at *
          refine Dr.plan_q (l := [_]) rfl (fun K hK => ?_)
          iterate 1 (go_big_quiet_step (fail))
          refine wpQuiet_nil (hK _ ?_); clear hK K
          refine Dr.plan_e3 ?_ ?_ ?_
          · refine Dr.plan_e rfl (by rfl) (fun K hK => ?_)
            go_wp2_with fail
            refine hK _ _ (.of (ext_alloc _ _)) ?_; clear hK K
            have zs2 := zs1.mk1 hb1.size
            have hZ2 := hZ1.alloc (.cells ((tab m fun _ => 0).map (Value.int .i64)).toArray 3)
            have hb2 := hb1.then_below ((ext_alloc X1 (.cells ((tab m fun _ => 0).map (Value.int .i64)).toArray 3)).mono hb1.size)
            generalize X1.alloc (.cells ((tab m fun _ => 0).map (Value.int .i64)).toArray 3) = X2 at *
            generalize X1.heap.size = N2 at *
            refine Dr.plan_e2 ?_ ?_
            · refine Dr.plan_e rfl (by rfl) (fun K hK => ?_)
              go_wp2_with fail
              refine hK _ _ (.of (ext_alloc _ _)) ?_; clear hK K
              have zs3 := zs2.mk1 hb2.size
              have hZ3 := hZ2.alloc (.cells ((tab m fun _ => 0).map (Value.int .i64)).toArray 3)
              have hb3 := hb2.then_below ((ext_alloc X2 (.cells ((tab m fun _ => 0).map (Value.int .i64)).toArray 3)).mono hb2.size)
              generalize X2.alloc (.cells ((tab m fun _ => 0).map (Value.int .i64)).toArray 3) = X3 at *
              generalize X2.heap.size = N3 at *
              refine Dr.plan_e rfl (by rfl) (fun K hK => ?_)
              have f4 := hZ3.free 4
              have z4 : X3.cell? ⟨B4, 4, none⟩ = _ := hZ3.cell rfl
              go_wp2_with fail
              refine hK _ _ (Dr.Bel.store (by simp) _) ?_; clear hK K
              have zs4 := zs3.put (p := ⟨B4, 4, none⟩) (by simp; omega) (.slice (some ⟨N1, 0, none⟩) m m)
              have hZ4 := hZ3.set 4 (.slice (some ⟨N1, 0, none⟩) m m)
              have hb4 := hb3.put (p := ⟨B4, 4, none⟩) (by simp) (.slice (some ⟨N1, 0, none⟩) m m)
              generalize X3.setCell ⟨B4, 4, none⟩ (.slice (some ⟨N1, 0, none⟩) m m) = X4 at *
              clear f4 z4
              refine Dr.plan_q (l := [_]) rfl (fun K hK => ?_)
              iterate 1 (go_big_quiet_step (fail))
              refine wpQuiet_nil (hK _ ?_); clear hK K
              refine Dr.plan_e rfl (by rfl) (fun K hK => ?_)
              have f5 := hZ4.free 5
              have z5 : X4.cell? ⟨B4, 5, none⟩ = _ := hZ4.cell rfl
              go_wp2_with fail
              refine hK _ _ (Dr.Bel.store (by simp) _) ?_; clear hK K
              have zs5 := zs4.put (p := ⟨B4, 5, none⟩) (by simp; omega) (.slice (some ⟨N2, 0, none⟩) m m)
              have hZ5 := hZ4.set 5 (.slice (some ⟨N2, 0, none⟩) m m)
              have hb5 := hb4.put (p := ⟨B4, 5, none⟩) (by simp) (.slice (some ⟨N2, 0, none⟩) m m)
              generalize X4.setCell ⟨B4, 5, none⟩ (.slice (some ⟨N2, 0, none⟩) m m) = X5 at *
              clear f5 z5
              refine Dr.plan_q (l := [_]) rfl (fun K hK => ?_)
              iterate 1 (go_big_quiet_step (fail))
              refine wpQuiet_nil (hK _ ?_); clear hK K
              refine Dr.plan_done (tl := [_]) rfl ?_
              have f := hZ5.free 6
              have z : X5.cell? ⟨B4, 6, none⟩ = _ := hZ5.cell rfl
              go_wp2
              have zs9 := zs5.put (p := ⟨B4, 6, none⟩) (by simp; omega) (.slice (some ⟨N3, 0, none⟩) m m)
              have hb9 := hb5.put (p := ⟨B4, 6, none⟩) (by simp) (.slice (some ⟨N3, 0, none⟩) m m)
              have hZ9 := hZ5.set 6 (.slice (some ⟨N3, 0, none⟩) m m)
              have nd := zs9.nd
              simp at nd
              go_meet
              case rel => exact ⟨N1, N2, N3, by simpa using hZ9, zs9.at_ _ (by simp), zs9.at_ _ (by simp), zs9.at_ _ (by simp), by omega, by omega, by omega, hb9⟩
            · refine Dr.plan_e rfl (by rfl) (fun K hK => ?_)
              have f6 := hZ2.free 4
              have z6 : X2.cell? ⟨B4, 4, none⟩ = _ := hZ2.cell rfl
              go_wp2_with fail
              refine hK _ _ (Dr.Bel.store (by simp) _) ?_; clear hK K
              have zs6 := zs2.put (p := ⟨B4, 4, none⟩) (by simp; omega) (.slice (some ⟨N1, 0, none⟩) m m)
              have hZ6 := hZ2.set 4 (.slice (some ⟨N1, 0, none⟩) m m)
              have hb6 := hb2.put (p := ⟨B4, 4, none⟩) (by simp) (.slice (some ⟨N1, 0, none⟩) m m)
              generalize X2.setCell ⟨B4, 4, none⟩ (.slice (some ⟨N1, 0, none⟩) m m) = X6 at *
              clear f6 z6
              refine Dr.plan_q (l := [_]) rfl (fun K hK => ?_)
              iterate 1 (go_big_quiet_step (fail))
              refine wpQuiet_nil (hK _ ?_); clear hK K
              refine Dr.plan_e2 ?_ ?_
              · refine Dr.plan_e rfl (by rfl) (fun K hK => ?_)
                go_wp2_with fail
                refine hK _ _ (.of (ext_alloc _ _)) ?_; clear hK K
                have zs7 := zs6.mk1 hb6.size
                have hZ7 := hZ6.alloc (.cells ((tab m fun _ => 0).map (Value.int .i64)).toArray 3)
                have hb7 := hb6.then_below ((ext_alloc X6 (.cells ((tab m fun _ => 0).map (Value.int .i64)).toArray 3)).mono hb6.size)
                generalize X6.alloc (.cells ((tab m fun _ => 0).map (Value.int .i64)).toArray 3) = X7 at *
                generalize X6.heap.size = N7 at *
                refine Dr.plan_e rfl (by rfl) (fun K hK => ?_)
                have f8 := hZ7.free 5
                have z8 : X7.cell? ⟨B4, 5, none⟩ = _ := hZ7.cell rfl
                go_wp2_with fail
                refine hK _ _ (Dr.Bel.store (by simp) _) ?_; clear hK K
                have zs8 := zs7.put (p := ⟨B4, 5, none⟩) (by simp; omega) (.slice (some ⟨N2, 0, none⟩) m m)
                have hZ8 := hZ7.set 5 (.slice (some ⟨N2, 0, none⟩) m m)
                have hb8 := hb7.put (p := ⟨B4, 5, none⟩) (by simp) (.slice (some ⟨N2, 0, none⟩) m m)
                generalize X7.setCell ⟨B4, 5, none⟩ (.slice (some ⟨N2, 0, none⟩) m m) = X8 at *
                clear f8 z8
                refine Dr.plan_q (l := [_]) rfl (fun K hK => ?_)
                iterate 1 (go_big_quiet_step (fail))
                refine wpQuiet_nil (hK _ ?_); clear hK K
                refine Dr.plan_done (tl := [_]) rfl ?_
                have f := hZ8.free 6
                have z : X8.cell? ⟨B4, 6, none⟩ = _ := hZ8.cell rfl
                go_wp2
                have zs9 := zs8.put (p := ⟨B4, 6, none⟩) (by simp; omega) (.slice (some ⟨N7, 0, none⟩) m m)
                have hb9 := hb8.put (p := ⟨B4, 6, none⟩) (by simp) (.slice (some ⟨N7, 0, none⟩) m m)
                have hZ9 := hZ8.set 6 (.slice (some ⟨N7, 0, none⟩) m m)
                have nd := zs9.nd
                simp at nd
                go_meet
                case rel => exact ⟨N1, N2, N7, by simpa using hZ9, zs9.at_ _ (by simp), zs9.at_ _ (by simp), zs9.at_ _ (by simp), by omega, by omega, by omega, hb9⟩
              · refine Dr.plan_e rfl (by rfl) (fun K hK => ?_)
                have f9 := hZ6.free 5
                have z9 : X6.cell? ⟨B4, 5, none⟩ = _ := hZ6.cell rfl
                go_wp2_with fail
                refine hK _ _ (Dr.Bel.store (by simp) _) ?_; clear hK K
                have zs9 := zs6.put (p := ⟨B4, 5, none⟩) (by simp; omega) (.slice (some ⟨N2, 0, none⟩) m m)
                have hZ9 := hZ6.set 5 (.slice (some ⟨N2, 0, none⟩) m m)
                have hb9 := hb6.put (p := ⟨B4, 5, none⟩) (by simp) (.slice (some ⟨N2, 0, none⟩) m m)
                generalize X6.setCell ⟨B4, 5, none⟩ (.slice (some ⟨N2, 0, none⟩) m m) = X9 at *
                clear f9 z9
                refine Dr.plan_e rfl (by rfl) (fun K hK => ?_)
                go_wp2_with fail
                refine hK _ _ (.of (ext_alloc _ _)) ?_; clear hK K
                have zs10 := zs9.mk1 hb9.size
                have hZ10 := hZ9.alloc (.cells ((tab m fun _ => 0).map (Value.int .i64)).toArray 3)
                have hb10 := hb9.then_below ((ext_alloc X9 (.cells ((tab m fun _ => 0).map (Value.int .i64)).toArray 3)).mono hb9.size)
                generalize X9.alloc (.cells ((tab m fun _ => 0).map (Value.int .i64)).toArray 3) = X10 at *
                generalize X9.heap.size = N10 at *
                refine Dr.plan_q (l := [_]) rfl (fun K hK => ?_)
                iterate 1 (go_big_quiet_step (fail))
                refine wpQuiet_nil (hK _ ?_); clear hK K
                refine Dr.plan_done (tl := [_]) rfl ?_
                have f := hZ10.free 6
                have z : X10.cell? ⟨B4, 6, none⟩ = _ := hZ10.cell rfl
                go_wp2
                have zs9 := zs10.put (p := ⟨B4, 6, none⟩) (by simp; omega) (.slice (some ⟨N10, 0, none⟩) m m)
                have hb9 := hb10.put (p := ⟨B4, 6, none⟩) (by simp) (.slice (some ⟨N10, 0, none⟩) m m)
                have hZ9 := hZ10.set 6 (.slice (some ⟨N10, 0, none⟩) m m)
                have nd := zs9.nd
                simp at nd
                go_meet
                case rel => exact ⟨N1, N2, N10, by simpa using hZ9, zs9.at_ _ (by simp), zs9.at_ _ (by simp), zs9.at_ _ (by simp), by omega, by omega, by omega, hb9⟩
          · refine Dr.plan_e rfl (by rfl) (fun K hK => ?_)
            go_wp2_with fail
            refine hK _ _ (.of (ext_alloc _ _)) ?_; clear hK K
            have zs11 := zs1.mk1 hb1.size
            have hZ11 := hZ1.alloc (.cells ((tab m fun _ => 0).map (Value.int .i64)).toArray 3)
            have hb11 := hb1.then_below ((ext_alloc X1 (.cells ((tab m fun _ => 0).map (Value.int .i64)).toArray 3)).mono hb1.size)
            generalize X1.alloc (.cells ((tab m fun _ => 0).map (Value.int .i64)).toArray 3) = X11 at *
            generalize X1.heap.size = N11 at *
            refine Dr.plan_e2 ?_ ?_
            · refine Dr.plan_e rfl (by rfl) (fun K hK => ?_)
              go_wp2_with fail
              refine hK _ _ (.of (ext_alloc _ _)) ?_; clear hK K
              have zs12 := zs11.mk1 hb11.size
              have hZ12 := hZ11.alloc (.cells ((tab m fun _ => 0).map (Value.int .i64)).toArray 3)
              have hb12 := hb11.then_below ((ext_alloc X11 (.cells ((tab m fun _ => 0).map (Value.int .i64)).toArray 3)).mono hb11.size)
              generalize X11.alloc (.cells ((tab m fun _ => 0).map (Value.int .i64)).toArray 3) = X12 at *
              generalize X11.heap.size = N12 at *
              refine Dr.plan_e rfl (by rfl) (fun K hK => ?_)
              have f13 := hZ12.free 4
              have z13 : X12.cell? ⟨B4, 4, none⟩ = _ := hZ12.cell rfl
              go_wp2_with fail
              refine hK _ _ (Dr.Bel.store (by simp) _) ?_; clear hK K
              have zs13 := zs12.put (p := ⟨B4, 4, none⟩) (by simp; omega) (.slice (some ⟨N1, 0, none⟩) m m)
              have hZ13 := hZ12.set 4 (.slice (some ⟨N1, 0, none⟩) m m)
              have hb13 := hb12.put (p := ⟨B4, 4, none⟩) (by simp) (.slice (some ⟨N1, 0, none⟩) m m)
              generalize X12.setCell ⟨B4, 4, none⟩ (.slice (some ⟨N1, 0, none⟩) m m) = X13 at *
              clear f13 z13
              refine Dr.plan_q (l := [_]) rfl (fun K hK => ?_)
              iterate 1 (go_big_quiet_step (fail))
              refine wpQuiet_nil (hK _ ?_); clear hK K
              refine Dr.plan_e rfl (by rfl) (fun K hK => ?_)
              have f14 := hZ13.free 5
              have z14 : X13.cell? ⟨B4, 5, none⟩ = _ := hZ13.cell rfl
              go_wp2_with fail
              refine hK _ _ (Dr.Bel.store (by simp) _) ?_; clear hK K
              have zs14 := zs13.put (p := ⟨B4, 5, none⟩) (by simp; omega) (.slice (some ⟨N12, 0, none⟩) m m)
              have hZ14 := hZ13.set 5 (.slice (some ⟨N12, 0, none⟩) m m)
              have hb14 := hb13.put (p := ⟨B4, 5, none⟩) (by simp) (.slice (some ⟨N12, 0, none⟩) m m)
              generalize X13.setCell ⟨B4, 5, none⟩ (.slice (some ⟨N12, 0, none⟩) m m) = X14 at *
              clear f14 z14
              refine Dr.plan_q (l := [_]) rfl (fun K hK => ?_)
              iterate 1 (go_big_quiet_step (fail))
              refine wpQuiet_nil (hK _ ?_); clear hK K
              refine Dr.plan_done (tl := [_]) rfl ?_
              have f := hZ14.free 6
              have z : X14.cell? ⟨B4, 6, none⟩ = _ := hZ14.cell rfl
              go_wp2
              have zs9 := zs14.put (p := ⟨B4, 6, none⟩) (by simp; omega) (.slice (some ⟨N11, 0, none⟩) m m)
              have hb9 := hb14.put (p := ⟨B4, 6, none⟩) (by simp) (.slice (some ⟨N11, 0, none⟩) m m)
              have hZ9 := hZ14.set 6 (.slice (some ⟨N11, 0, none⟩) m m)
              have nd := zs9.nd
              simp at nd
              go_meet
              case rel => exact ⟨N1, N12, N11, by simpa using hZ9, zs9.at_ _ (by simp), zs9.at_ _ (by simp), zs9.at_ _ (by simp), by omega, by omega, by omega, hb9⟩
            · refine Dr.plan_e rfl (by rfl) (fun K hK => ?_)
              have f15 := hZ11.free 4
              have z15 : X11.cell? ⟨B4, 4, none⟩ = _ := hZ11.cell rfl
              go_wp2_with fail
              refine hK _ _ (Dr.Bel.store (by simp) _) ?_; clear hK K
              have zs15 := zs11.put (p := ⟨B4, 4, none⟩) (by simp; omega) (.slice (some ⟨N1, 0, none⟩) m m)
              have hZ15 := hZ11.set 4 (.slice (some ⟨N1, 0, none⟩) m m)
              have hb15 := hb11.put (p := ⟨B4, 4, none⟩) (by simp) (.slice (some ⟨N1, 0, none⟩) m m)
              generalize X11.setCell ⟨B4, 4, none⟩ (.slice (some ⟨N1, 0, none⟩) m m) = X15 at *
              clear f15 z15
              refine Dr.plan_e rfl (by rfl) (fun K hK => ?_)
              go_wp2_with fail
              refine hK _ _ (.of (ext_alloc _ _)) ?_; clear hK K
              have zs16 := zs15.mk1 hb15.size
              have hZ16 := hZ15.alloc (.cells ((tab m fun _ => 0).map (Value.int .i64)).toArray 3)
              have hb16 := hb15.then_below ((ext_alloc X15 (.cells ((tab m fun _ => 0).map (Value.int .i64)).toArray 3)).mono hb15.size)
              generalize X15.alloc (.cells ((tab m fun _ => 0).map (Value.int .i64)).toArray 3) = X16 at *
              generalize X15.heap.size = N16 at *
              refine Dr.plan_q (l := [_]) rfl (fun K hK => ?_)
              iterate 1 (go_big_quiet_step (fail))
              refine wpQuiet_nil (hK _ ?_); clear hK K
              refine Dr.plan_e rfl (by rfl) (fun K hK => ?_)
              have f17 := hZ16.free 5
              have z17 : X16.cell? ⟨B4, 5, none⟩ = _ := hZ16.cell rfl
              go_wp2_with fail
              refine hK _ _ (Dr.Bel.store (by simp) _) ?_; clear hK K
              have zs17 := zs16.put (p := ⟨B4, 5, none⟩) (by simp; omega) (.slice (some ⟨N16, 0, none⟩) m m)
              have hZ17 := hZ16.set 5 (.slice (some ⟨N16, 0, none⟩) m m)
              have hb17 := hb16.put (p := ⟨B4, 5, none⟩) (by simp) (.slice (some ⟨N16, 0, none⟩) m m)
              generalize X16.setCell ⟨B4, 5, none⟩ (.slice (some ⟨N16, 0, none⟩) m m) = X17 at *
              clear f17 z17
              refine Dr.plan_q (l := [_]) rfl (fun K hK => ?_)
              iterate 1 (go_big_quiet_step (fail))
              refine wpQuiet_nil (hK _ ?_); clear hK K
              refine Dr.plan_done (tl := [_]) rfl ?_
              have f := hZ17.free 6
              have z : X17.cell? ⟨B4, 6, none⟩ = _ := hZ17.cell rfl
              go_wp2
              have zs9 := zs17.put (p := ⟨B4, 6, none⟩) (by simp; omega) (.slice (some ⟨N11, 0, none⟩) m m)
              have hb9 := hb17.put (p := ⟨B4, 6, none⟩) (by simp) (.slice (some ⟨N11, 0, none⟩) m m)
              have hZ9 := hZ17.set 6 (.slice (some ⟨N11, 0, none⟩) m m)
              have nd := zs9.nd
              simp at nd
              go_meet
              case rel => exact ⟨N1, N16, N11, by simpa using hZ9, zs9.at_ _ (by simp), zs9.at_ _ (by simp), zs9.at_ _ (by simp), by omega, by omega, by omega, hb9⟩
          · refine Dr.plan_e rfl (by rfl) (fun K hK => ?_)
            have f18 := hZ1.free 4
            have z18 : X1.cell? ⟨B4, 4, none⟩ = _ := hZ1.cell rfl
            go_wp2_with fail
            refine hK _ _ (Dr.Bel.store (by simp) _) ?_; clear hK K
            have zs18 := zs1.put (p := ⟨B4, 4, none⟩) (by simp; omega) (.slice (some ⟨N1, 0, none⟩) m m)
            have hZ18 := hZ1.set 4 (.slice (some ⟨N1, 0, none⟩) m m)
            have hb18 := hb1.put (p := ⟨B4, 4, none⟩) (by simp) (.slice (some ⟨N1, 0, none⟩) m m)
            generalize X1.setCell ⟨B4, 4, none⟩ (.slice (some ⟨N1, 0, none⟩) m m) = X18 at *
            clear f18 z18
            refine Dr.plan_e2 ?_ ?_
            · refine Dr.plan_e rfl (by rfl) (fun K hK => ?_)
              go_wp2_with fail
              refine hK _ _ (.of (ext_alloc _ _)) ?_; clear hK K
              have zs19 := zs18.mk1 hb18.size
              have hZ19 := hZ18.alloc (.cells ((tab m fun _ => 0).map (Value.int .i64)).toArray 3)
              have hb19 := hb18.then_below ((ext_alloc X18 (.cells ((tab m fun _ => 0).map (Value.int .i64)).toArray 3)).mono hb18.size)
              generalize X18.alloc (.cells ((tab m fun _ => 0).map (Value.int .i64)).toArray 3) = X19 at *
              generalize X18.heap.size = N19 at *
              refine Dr.plan_q (l := [_]) rfl (fun K hK => ?_)
              iterate 1 (go_big_quiet_step (fail))
              refine wpQuiet_nil (hK _ ?_); clear hK K
              refine Dr.plan_e2 ?_ ?_
              · refine Dr.plan_e rfl (by rfl) (fun K hK => ?_)
                go_wp2_with fail
                refine hK _ _ (.of (ext_alloc _ _)) ?_; clear hK K
                have zs20 := zs19.mk1 hb19.size
                have hZ20 := hZ19.alloc (.cells ((tab m fun _ => 0).map (Value.int .i64)).toArray 3)
                have hb20 := hb19.then_below ((ext_alloc X19 (.cells ((tab m fun _ => 0).map (Value.int .i64)).toArray 3)).mono hb19.size)
                generalize X19.alloc (.cells ((tab m fun _ => 0).map (Value.int .i64)).toArray 3) = X20 at *
                generalize X19.heap.size = N20 at *
                refine Dr.plan_e rfl (by rfl) (fun K hK => ?_)
                have f21 := hZ20.free 5
                have z21 : X20.cell? ⟨B4, 5, none⟩ = _ := hZ20.cell rfl
                go_wp2_with fail
                refine hK _ _ (Dr.Bel.store (by simp) _) ?_; clear hK K
                have zs21 := zs20.put (p := ⟨B4, 5, none⟩) (by simp; omega) (.slice (some ⟨N19, 0, none⟩) m m)
                have hZ21 := hZ20.set 5 (.slice (some ⟨N19, 0, none⟩) m m)
                have hb21 := hb20.put (p := ⟨B4, 5, none⟩) (by simp) (.slice (some ⟨N19, 0, none⟩) m m)
                generalize X20.setCell ⟨B4, 5, none⟩ (.slice (some ⟨N19, 0, none⟩) m m) = X21 at *
                clear f21 z21
                refine Dr.plan_q (l := [_]) rfl (fun K hK => ?_)
                iterate 1 (go_big_quiet_step (fail))
                refine wpQuiet_nil (hK _ ?_); clear hK K
                refine Dr.plan_done (tl := [_]) rfl ?_
                have f := hZ21.free 6
                have z : X21.cell? ⟨B4, 6, none⟩ = _ := hZ21.cell rfl
                go_wp2
                have zs9 := zs21.put (p := ⟨B4, 6, none⟩) (by simp; omega) (.slice (some ⟨N20, 0, none⟩) m m)
                have hb9 := hb21.put (p := ⟨B4, 6, none⟩) (by simp) (.slice (some ⟨N20, 0, none⟩) m m)
                have hZ9 := hZ21.set 6 (.slice (some ⟨N20, 0, none⟩) m m)
                have nd := zs9.nd
                simp at nd
                go_meet
                case rel => exact ⟨N1, N19, N20, by simpa using hZ9, zs9.at_ _ (by simp), zs9.at_ _ (by simp), zs9.at_ _ (by simp), by omega, by omega, by omega, hb9⟩
              · refine Dr.plan_e rfl (by rfl) (fun K hK => ?_)
                have f22 := hZ19.free 5
                have z22 : X19.cell? ⟨B4, 5, none⟩ = _ := hZ19.cell rfl
                go_wp2_with fail
                refine hK _ _ (Dr.Bel.store (by simp) _) ?_; clear hK K
                have zs22 := zs19.put (p := ⟨B4, 5, none⟩) (by simp; omega) (.slice (some ⟨N19, 0, none⟩) m m)
                have hZ22 := hZ19.set 5 (.slice (some ⟨N19, 0, none⟩) m m)
                have hb22 := hb19.put (p := ⟨B4, 5, none⟩) (by simp) (.slice (some ⟨N19, 0, none⟩) m m)
                generalize X19.setCell ⟨B4, 5, none⟩ (.slice (some ⟨N19, 0, none⟩) m m) = X22 at *
                clear f22 z22
                refine Dr.plan_e rfl (by rfl) (fun K hK => ?_)
                go_wp2_with fail
                refine hK _ _ (.of (ext_alloc _ _)) ?_; clear hK K
                have zs23 := zs22.mk1 hb22.size
                have hZ23 := hZ22.alloc (.cells ((tab m fun _ => 0).map (Value.int .i64)).toArray 3)
                have hb23 := hb22.then_below ((ext_alloc X22 (.cells ((tab m fun _ => 0).map (Value.int .i64)).toArray 3)).mono hb22.size)
                generalize X22.alloc (.cells ((tab m fun _ => 0).map (Value.int .i64)).toArray 3) = X23 at *
                generalize X22.heap.size = N23 at *
                refine Dr.plan_q (l := [_]) rfl (fun K hK => ?_)
                iterate 1 (go_big_quiet_step (fail))
                refine wpQuiet_nil (hK _ ?_); clear hK K
                refine Dr.plan_done (tl := [_]) rfl ?_
                have f := hZ23.free 6
                have z : X23.cell? ⟨B4, 6, none⟩ = _ := hZ23.cell rfl
                go_wp2
                have zs9 := zs23.put (p := ⟨B4, 6, none⟩) (by simp; omega) (.slice (some ⟨N23, 0, none⟩) m m)
                have hb9 := hb23.put (p := ⟨B4, 6, none⟩) (by simp) (.slice (some ⟨N23, 0, none⟩) m m)
                have hZ9 := hZ23.set 6 (.slice (some ⟨N23, 0, none⟩) m m)
                have nd := zs9.nd
                simp at nd
                go_meet
                case rel => exact ⟨N1, N19, N23, by simpa using hZ9, zs9.at_ _ (by simp), zs9.at_ _ (by simp), zs9.at_ _ (by simp), by omega, by omega, by omega, hb9⟩
            · refine Dr.plan_e rfl (by rfl) (fun K hK => ?_)
              go_wp2_with fail
              refine hK _ _ (.of (ext_alloc _ _)) ?_; clear hK K
              have zs24 := zs18.mk1 hb18.size
              have hZ24 := hZ18.alloc (.cells ((tab m fun _ => 0).map (Value.int .i64)).toArray 3)
              have hb24 := hb18.then_below ((ext_alloc X18 (.cells ((tab m fun _ => 0).map (Value.int .i64)).toArray 3)).mono hb18.size)
              generalize X18.alloc (.cells ((tab m fun _ => 0).map (Value.int .i64)).toArray 3) = X24 at *
              generalize X18.heap.size = N24 at *
              refine Dr.plan_e rfl (by rfl) (fun K hK => ?_)
              go_wp2_with fail
              refine hK _ _ (.of (ext_alloc _ _)) ?_; clear hK K
              have zs25 := zs24.mk1 hb24.size
              have hZ25 := hZ24.alloc (.cells ((tab m fun _ => 0).map (Value.int .i64)).toArray 3)
              have hb25 := hb24.then_below ((ext_alloc X24 (.cells ((tab m fun _ => 0).map (Value.int .i64)).toArray 3)).mono hb24.size)
              generalize X24.alloc (.cells ((tab m fun _ => 0).map (Value.int .i64)).toArray 3) = X25 at *
              generalize X24.heap.size = N25 at *
              refine Dr.plan_q (l := [_]) rfl (fun K hK => ?_)
              iterate 1 (go_big_quiet_step (fail))
              refine wpQuiet_nil (hK _ ?_); clear hK K
              refine Dr.plan_e rfl (by rfl) (fun K hK => ?_)
              have f26 := hZ25.free 5
              have z26 : X25.cell? ⟨B4, 5, none⟩ = _ := hZ25.cell rfl
              go_wp2_with fail
              refine hK _ _ (Dr.Bel.store (by simp) _) ?_; clear hK K
              have zs26 := zs25.put (p := ⟨B4, 5, none⟩) (by simp; omega) (.slice (some ⟨N25, 0, none⟩) m m)
              have hZ26 := hZ25.set 5 (.slice (some ⟨N25, 0, none⟩) m m)
              have hb26 := hb25.put (p := ⟨B4, 5, none⟩) (by simp) (.slice (some ⟨N25, 0, none⟩) m m)
              generalize X25.setCell ⟨B4, 5, none⟩ (.slice (some ⟨N25, 0, none⟩) m m) = X26 at *
              clear f26 z26
              refine Dr.plan_q (l := [_]) rfl (fun K hK => ?_)
              iterate 1 (go_big_quiet_step (fail))
              refine wpQuiet_nil (hK _ ?_); clear hK K
              refine Dr.plan_done (tl := [_]) rfl ?_
              have f := hZ26.free 6
              have z : X26.cell? ⟨B4, 6, none⟩ = _ := hZ26.cell rfl
              go_wp2
              have zs9 := zs26.put (p := ⟨B4, 6, none⟩) (by simp; omega) (.slice (some ⟨N24, 0, none⟩) m m)
              have hb9 := hb26.put (p := ⟨B4, 6, none⟩) (by simp) (.slice (some ⟨N24, 0, none⟩) m m)
              have hZ9 := hZ26.set 6 (.slice (some ⟨N24, 0, none⟩) m m)
              have nd := zs9.nd
              simp at nd
              go_meet
              case rel => exact ⟨N1, N25, N24, by simpa using hZ9, zs9.at_ _ (by simp), zs9.at_ _ (by simp), zs9.at_ _ (by simp), by omega, by omega, by omega, hb9⟩
        · refine Dr.plan_e rfl (by rfl) (fun K hK => ?_)
          go_wp2_with fail
          refine hK _ _ (.of (ext_alloc _ _)) ?_; clear hK K
          have zs27 := zs.mk1 hb.size
          have hZ27 := hZ.alloc (.cells ((tab m fun _ => 0).map (Value.int .i64)).toArray 3)
          have hb27 := hb.then_below ((ext_alloc W (.cells ((tab m fun _ => 0).map (Value.int .i64)).toArray 3)).mono hb.size)
          generalize W.alloc (.cells ((tab m fun _ => 0).map (Value.int .i64)).toArray 3) = X27 at *
          generalize W.heap.size = N27 at *
          refine Dr.plan_e2 ?_ ?_
          · refine Dr.plan_e rfl (by rfl) (fun K hK => ?_)
            go_wp2_with fail
            refine hK _ _ (.of (ext_alloc _ _)) ?_; clear hK K
            have zs28 := zs27.mk1 hb27.size
            have hZ28 := hZ27.alloc (.cells ((tab m fun _ => 0).map (Value.int .i64)).toArray 3)
            have hb28 := hb27.then_below ((ext_alloc X27 (.cells ((tab m fun _ => 0).map (Value.int .i64)).toArray 3)).mono hb27.size)
            generalize X27.alloc (.cells ((tab m fun _ => 0).map (Value.int .i64)).toArray 3) = X28 at *
            generalize X27.heap.size = N28 at *
            refine Dr.plan_q (l := [_]) rfl (fun K hK => ?_)
            iterate 1 (go_big_quiet_step (fail))
            refine wpQuiet_nil (hK _ ?_); clear hK K
            refine Dr.plan_e2 ?_ ?_
            · refine Dr.plan_e rfl (by rfl) (fun K hK => ?_)
              go_wp2_with fail
              refine hK _ _ (.of (ext_alloc _ _)) ?_; clear hK K
              have zs29 := zs28.mk1 hb28.size
              have hZ29 := hZ28.alloc (.cells ((tab m fun _ => 0).map (Value.int .i64)).toArray 3)
              have hb29 := hb28.then_below ((ext_alloc X28 (.cells ((tab m fun _ => 0).map (Value.int .i64)).toArray 3)).mono hb28.size)
              generalize X28.alloc (.cells ((tab m fun _ => 0).map (Value.int .i64)).toArray 3) = X29 at *
              generalize X28.heap.size = N29 at *
              refine Dr.plan_e rfl (by rfl) (fun K hK => ?_)
              have f30 := hZ29.free 4
              have z30 : X29.cell? ⟨B4, 4, none⟩ = _ := hZ29.cell rfl
              go_wp2_with fail
              refine hK _ _ (Dr.Bel.store (by simp) _) ?_; clear hK K
              have zs30 := zs29.put (p := ⟨B4, 4, none⟩) (by simp; omega) (.slice (some ⟨N28, 0, none⟩) m m)
              have hZ30 := hZ29.set 4 (.slice (some ⟨N28, 0, none⟩) m m)
              have hb30 := hb29.put (p := ⟨B4, 4, none⟩) (by simp) (.slice (some ⟨N28, 0, none⟩) m m)
              generalize X29.setCell ⟨B4, 4, none⟩ (.slice (some ⟨N28, 0, none⟩) m m) = X30 at *
              clear f30 z30
              refine Dr.plan_q (l := [_]) rfl (fun K hK => ?_)
              iterate 1 (go_big_quiet_step (fail))
              refine wpQuiet_nil (hK _ ?_); clear hK K
              refine Dr.plan_e rfl (by rfl) (fun K hK => ?_)
              have f31 := hZ30.free 5
              have z31 : X30.cell? ⟨B4, 5, none⟩ = _ := hZ30.cell rfl
              go_wp2_with fail
              refine hK _ _ (Dr.Bel.store (by simp) _) ?_; clear hK K
              have zs31 := zs30.put (p := ⟨B4, 5, none⟩) (by simp; omega) (.slice (some ⟨N27, 0, none⟩) m m)
              have hZ31 := hZ30.set 5 (.slice (some ⟨N27, 0, none⟩) m m)
              have hb31 := hb30.put (p := ⟨B4, 5, none⟩) (by simp) (.slice (some ⟨N27, 0, none⟩) m m)
              generalize X30.setCell ⟨B4, 5, none⟩ (.slice (some ⟨N27, 0, none⟩) m m) = X31 at *
              clear f31 z31
              refine Dr.plan_q (l := [_]) rfl (fun K hK => ?_)
              iterate 1 (go_big_quiet_step (fail))
              refine wpQuiet_nil (hK _ ?_); clear hK K
              refine Dr.plan_done (tl := [_]) rfl ?_
              have f := hZ31.free 6
              have z : X31.cell? ⟨B4, 6, none⟩ = _ := hZ31.cell rfl
              go_wp2
              have zs9 := zs31.put (p := ⟨B4, 6, none⟩) (by simp; omega) (.slice (some ⟨N29, 0, none⟩) m m)
              have hb9 := hb31.put (p := ⟨B4, 6, none⟩) (by simp) (.slice (some ⟨N29, 0, none⟩) m m)
              have hZ9 := hZ31.set 6 (.slice (some ⟨N29, 0, none⟩) m m)
              have nd := zs9.nd
              simp at nd
              go_meet
              case rel => exact ⟨N28, N27, N29, by simpa using hZ9, zs9.at_ _ (by simp), zs9.at_ _ (by simp), zs9.at_ _ (by simp), by omega, by omega, by omega, hb9⟩
            · refine Dr.plan_e rfl (by rfl) (fun K hK => ?_)
              have f32 := hZ28.free 4
              have z32 : X28.cell? ⟨B4, 4, none⟩ = _ := hZ28.cell rfl
              go_wp2_with fail
              refine hK _ _ (Dr.Bel.store (by simp) _) ?_; clear hK K
              have zs32 := zs28.put (p := ⟨B4, 4, none⟩) (by simp; omega) (.slice (some ⟨N28, 0, none⟩) m m)
              have hZ32 := hZ28.set 4 (.slice (some ⟨N28, 0, none⟩) m m)
              have hb32 := hb28.put (p := ⟨B4, 4, none⟩) (by simp) (.slice (some ⟨N28, 0, none⟩) m m)
              generalize X28.setCell ⟨B4, 4, none⟩ (.slice (some ⟨N28, 0, none⟩) m m) = X32 at *
              clear f32 z32
              refine Dr.plan_q (l := [_]) rfl (fun K hK => ?_)
              iterate 1 (go_big_quiet_step (fail))
              refine wpQuiet_nil (hK _ ?_); clear hK K
              refine Dr.plan_e2 ?_ ?_
              · refine Dr.plan_e rfl (by rfl) (fun K hK => ?_)
                go_wp2_with fail
                refine hK _ _ (.of (ext_alloc _ _)) ?_; clear hK K
                have zs33 := zs32.mk1 hb32.size
                have hZ33 := hZ32.alloc (.cells ((tab m fun _ => 0).map (Value.int .i64)).toArray 3)
                have hb33 := hb32.then_below ((ext_alloc X32 (.cells ((tab m fun _ => 0).map (Value.int .i64)).toArray 3)).mono hb32.size)
                generalize X32.alloc (.cells ((tab m fun _ => 0).map (Value.int .i64)).toArray 3) = X33 at *
                generalize X32.heap.size = N33 at *
                refine Dr.plan_e rfl (by rfl) (fun K hK => ?_)
                have f34 := hZ33.free 5
                have z34 : X33.cell? ⟨B4, 5, none⟩ = _ := hZ33.cell rfl
                go_wp2_with fail
                refine hK _ _ (Dr.Bel.store (by simp) _) ?_; clear hK K
                have zs34 := zs33.put (p := ⟨B4, 5, none⟩) (by simp; omega) (.slice (some ⟨N27, 0, none⟩) m m)
                have hZ34 := hZ33.set 5 (.slice (some ⟨N27, 0, none⟩) m m)
                have hb34 := hb33.put (p := ⟨B4, 5, none⟩) (by simp) (.slice (some ⟨N27, 0, none⟩) m m)
                generalize X33.setCell ⟨B4, 5, none⟩ (.slice (some ⟨N27, 0, none⟩) m m) = X34 at *
                clear f34 z34
                refine Dr.plan_q (l := [_]) rfl (fun K hK => ?_)
                iterate 1 (go_big_quiet_step (fail))
                refine wpQuiet_nil (hK _ ?_); clear hK K
                refine Dr.plan_done (tl := [_]) rfl ?_
                have f := hZ34.free 6
                have z : X34.cell? ⟨B4, 6, none⟩ = _ := hZ34.cell rfl
                go_wp2
                have zs9 := zs34.put (p := ⟨B4, 6, none⟩) (by simp; omega) (.slice (some ⟨N33, 0, none⟩) m m)
                have hb9 := hb34.put (p := ⟨B4, 6, none⟩) (by simp) (.slice (some ⟨N33, 0, none⟩) m m)
                have hZ9 := hZ34.set 6 (.slice (some ⟨N33, 0, none⟩) m m)
                have nd := zs9.nd
                simp at nd
                go_meet
                case rel => exact ⟨N28, N27, N33, by simpa using hZ9, zs9.at_ _ (by simp), zs9.at_ _ (by simp), zs9.at_ _ (by simp), by omega, by omega, by omega, hb9⟩
              · refine Dr.plan_e rfl (by rfl) (fun K hK => ?_)
                have f35 := hZ32.free 5
                have z35 : X32.cell? ⟨B4, 5, none⟩ = _ := hZ32.cell rfl
                go_wp2_with fail
                refine hK _ _ (Dr.Bel.store (by simp) _) ?_; clear hK K
                have zs35 := zs32.put (p := ⟨B4, 5, none⟩) (by simp; omega) (.slice (some ⟨N27, 0, none⟩) m m)
                have hZ35 := hZ32.set 5 (.slice (some ⟨N27, 0, none⟩) m m)
                have hb35 := hb32.put (p := ⟨B4, 5, none⟩) (by simp) (.slice (some ⟨N27, 0, none⟩) m m)
                generalize X32.setCell ⟨B4, 5, none⟩ (.slice (some ⟨N27, 0, none⟩) m m) = X35 at *
                clear f35 z35
                refine Dr.plan_e rfl (by rfl) (fun K hK => ?_)
                go_wp2_with fail
                refine hK _ _ (.of (ext_alloc _ _)) ?_; clear hK K
                have zs36 := zs35.mk1 hb35.size
                have hZ36 := hZ35.alloc (.cells ((tab m fun _ => 0).map (Value.int .i64)).toArray 3)
                have hb36 := hb35.then_below ((ext_alloc X35 (.cells ((tab m fun _ => 0).map (Value.int .i64)).toArray 3)).mono hb35.size)
                generalize X35.alloc (.cells ((tab m fun _ => 0).map (Value.int .i64)).toArray 3) = X36 at *
                generalize X35.heap.size = N36 at *
                refine Dr.plan_q (l := [_]) rfl (fun K hK => ?_)
                iterate 1 (go_big_quiet_step (fail))
                refine wpQuiet_nil (hK _ ?_); clear hK K
                refine Dr.plan_done (tl := [_]) rfl ?_
                have f := hZ36.free 6
                have z : X36.cell? ⟨B4, 6, none⟩ = _ := hZ36.cell rfl
                go_wp2
                have zs9 := zs36.put (p := ⟨B4, 6, none⟩) (by simp; omega) (.slice (some ⟨N36, 0, none⟩) m m)
                have hb9 := hb36.put (p := ⟨B4, 6, none⟩) (by simp) (.slice (some ⟨N36, 0, none⟩) m m)
                have hZ9 := hZ36.set 6 (.slice (some ⟨N36, 0, none⟩) m m)
                have nd := zs9.nd
                simp at nd
                go_meet
                case rel => exact ⟨N28, N27, N36, by simpa using hZ9, zs9.at_ _ (by simp), zs9.at_ _ (by simp), zs9.at_ _ (by simp), by omega, by omega, by omega, hb9⟩
          · refine Dr.plan_e rfl (by rfl) (fun K hK => ?_)
            go_wp2_with fail
            refine hK _ _ (.of (ext_alloc _ _)) ?_; clear hK K
            have zs37 := zs27.mk1 hb27.size
            have hZ37 := hZ27.alloc (.cells ((tab m fun _ => 0).map (Value.int .i64)).toArray 3)
            have hb37 := hb27.then_below ((ext_alloc X27 (.cells ((tab m fun _ => 0).map (Value.int .i64)).toArray 3)).mono hb27.size)
            generalize X27.alloc (.cells ((tab m fun _ => 0).map (Value.int .i64)).toArray 3) = X37 at *
            generalize X27.heap.size = N37 at *
            refine Dr.plan_e rfl (by rfl) (fun K hK => ?_)
            go_wp2_with fail
            refine hK _ _ (.of (ext_alloc _ _)) ?_; clear hK K
            have zs38 := zs37.mk1 hb37.size
            have hZ38 := hZ37.alloc (.cells ((tab m fun _ => 0).map (Value.int .i64)).toArray 3)
            have hb38 := hb37.then_below ((ext_alloc X37 (.cells ((tab m fun _ => 0).map (Value.int .i64)).toArray 3)).mono hb37.size)
            generalize X37.alloc (.cells ((tab m fun _ => 0).map (Value.int .i64)).toArray 3) = X38 at *
            generalize X37.heap.size = N38 at *
            refine Dr.plan_q (l := [_]) rfl (fun K hK => ?_)
            iterate 1 (go_big_quiet_step (fail))
            refine wpQuiet_nil (hK _ ?_); clear hK K
            refine Dr.plan_e rfl (by rfl) (fun K hK => ?_)
            have f39 := hZ38.free 4
            have z39 : X38.cell? ⟨B4, 4, none⟩ = _ := hZ38.cell rfl
            go_wp2_with fail
            refine hK _ _ (Dr.Bel.store (by simp) _) ?_; clear hK K
            have zs39 := zs38.put (p := ⟨B4, 4, none⟩) (by simp; omega) (.slice (some ⟨N38, 0, none⟩) m m)
            have hZ39 := hZ38.set 4 (.slice (some ⟨N38, 0, none⟩) m m)
            have hb39 := hb38.put (p := ⟨B4, 4, none⟩) (by simp) (.slice (some ⟨N38, 0, none⟩) m m)
            generalize X38.setCell ⟨B4, 4, none⟩ (.slice (some ⟨N38, 0, none⟩) m m) = X39 at *
            clear f39 z39
            refine Dr.plan_q (l := [_]) rfl (fun K hK => ?_)
            iterate 1 (go_big_quiet_step (fail))
            refine wpQuiet_nil (hK _ ?_); clear hK K
            refine Dr.plan_e rfl (by rfl) (fun K hK => ?_)
            have f40 := hZ39.free 5
            have z40 : X39.cell? ⟨B4, 5, none⟩ = _ := hZ39.cell rfl
            go_wp2_with fail
            refine hK _ _ (Dr.Bel.store (by simp) _) ?_; clear hK K
            have zs40 := zs39.put (p := ⟨B4, 5, none⟩) (by simp; omega) (.slice (some ⟨N27, 0, none⟩) m m)
            have hZ40 := hZ39.set 5 (.slice (some ⟨N27, 0, none⟩) m m)
            have hb40 := hb39.put (p := ⟨B4, 5, none⟩) (by simp) (.slice (some ⟨N27, 0, none⟩) m m)
            generalize X39.setCell ⟨B4, 5, none⟩ (.slice (some ⟨N27, 0, none⟩) m m) = X40 at *
            clear f40 z40
            refine Dr.plan_q (l := [_]) rfl (fun K hK => ?_)
            iterate 1 (go_big_quiet_step (fail))
            refine wpQuiet_nil (hK _ ?_); clear hK K
            refine Dr.plan_done (tl := [_]) rfl ?_
            have f := hZ40.free 6
            have z : X40.cell? ⟨B4, 6, none⟩ = _ := hZ40.cell rfl
            go_wp2
            have zs9 := zs40.put (p := ⟨B4, 6, none⟩) (by simp; omega) (.slice (some ⟨N37, 0, none⟩) m m)
            have hb9 := hb40.put (p := ⟨B4, 6, none⟩) (by simp) (.slice (some ⟨N37, 0, none⟩) m m)
            have hZ9 := hZ40.set 6 (.slice (some ⟨N37, 0, none⟩) m m)
            have nd := zs9.nd
            simp at nd
            go_meet
            case rel => exact ⟨N38, N27, N37, by simpa using hZ9, zs9.at_ _ (by simp), zs9.at_ _ (by simp), zs9.at_ _ (by simp), by omega, by omega, by omega, hb9⟩
        · refine Dr.plan_e rfl (by rfl) (fun K hK => ?_)
          go_wp2_with fail
          refine hK _ _ (.of (ext_alloc _ _)) ?_; clear hK K
          have zs41 := zs.mk1 hb.size
          have hZ41 := hZ.alloc (.cells ((tab m fun _ => 0).map (Value.int .i64)).toArray 3)
          have hb41 := hb.then_below ((ext_alloc W (.cells ((tab m fun _ => 0).map (Value.int .i64)).toArray 3)).mono hb.size)
          generalize W.alloc (.cells ((tab m fun _ => 0).map (Value.int .i64)).toArray 3) = X41 at *
          generalize W.heap.size = N41 at *
          refine Dr.plan_e2 ?_ ?_
          · refine Dr.plan_e rfl (by rfl) (fun K hK => ?_)
            go_wp2_with fail
            refine hK _ _ (.of (ext_alloc _ _)) ?_; clear hK K
            have zs42 := zs41.mk1 hb41.size
            have hZ42 := hZ41.alloc (.cells ((tab m fun _ => 0).map (Value.int .i64)).toArray 3)
            have hb42 := hb41.then_below ((ext_alloc X41 (.cells ((tab m fun _ => 0).map (Value.int .i64)).toArray 3)).mono hb41.size)
            generalize X41.alloc (.cells ((tab m fun _ => 0).map (Value.int .i64)).toArray 3) = X42 at *
            generalize X41.heap.size = N42 at *
            refine Dr.plan_q (l := [_]) rfl (fun K hK => ?_)
            iterate 1 (go_big_quiet_step (fail))
            refine wpQuiet_nil (hK _ ?_); clear hK K
            refine Dr.plan_e2 ?_ ?_
            · refine Dr.plan_e rfl (by rfl) (fun K hK => ?_)
              go_wp2_with fail
              refine hK _ _ (.of (ext_alloc _ _)) ?_; clear hK K
              have zs43 := zs42.mk1 hb42.size
              have hZ43 := hZ42.alloc (.cells ((tab m fun _ => 0).map (Value.int .i64)).toArray 3)
              have hb43 := hb42.then_below ((ext_alloc X42 (.cells ((tab m fun _ => 0).map (Value.int .i64)).toArray 3)).mono hb42.size)
              generalize X42.alloc (.cells ((tab m fun _ => 0).map (Value.int .i64)).toArray 3) = X43 at *
              generalize X42.heap.size = N43 at *
              refine Dr.plan_e rfl (by rfl) (fun K hK => ?_)
              have f44 := hZ43.free 4
              have z44 : X43.cell? ⟨B4, 4, none⟩ = _ := hZ43.cell rfl
              go_wp2_with fail
              refine hK _ _ (Dr.Bel.store (by simp) _) ?_; clear hK K
              have zs44 := zs43.put (p := ⟨B4, 4, none⟩) (by simp; omega) (.slice (some ⟨N42, 0, none⟩) m m)
              have hZ44 := hZ43.set 4 (.slice (some ⟨N42, 0, none⟩) m m)
              have hb44 := hb43.put (p := ⟨B4, 4, none⟩) (by simp) (.slice (some ⟨N42, 0, none⟩) m m)
              generalize X43.setCell ⟨B4, 4, none⟩ (.slice (some ⟨N42, 0, none⟩) m m) = X44 at *
              clear f44 z44
              refine Dr.plan_q (l := [_]) rfl (fun K hK => ?_)
              iterate 1 (go_big_quiet_step (fail))
              refine wpQuiet_nil (hK _ ?_); clear hK K
              refine Dr.plan_e rfl (by rfl) (fun K hK => ?_)
              have f45 := hZ44.free 5
              have z45 : X44.cell? ⟨B4, 5, none⟩ = _ := hZ44.cell rfl
              go_wp2_with fail
              refine hK _ _ (Dr.Bel.store (by simp) _) ?_; clear hK K
              have zs45 := zs44.put (p := ⟨B4, 5, none⟩) (by simp; omega) (.slice (some ⟨N43, 0, none⟩) m m)
              have hZ45 := hZ44.set 5 (.slice (some ⟨N43, 0, none⟩) m m)
              have hb45 := hb44.put (p := ⟨B4, 5, none⟩) (by simp) (.slice (some ⟨N43, 0, none⟩) m m)
              generalize X44.setCell ⟨B4, 5, none⟩ (.slice (some ⟨N43, 0, none⟩) m m) = X45 at *
              clear f45 z45
              refine Dr.plan_q (l := [_]) rfl (fun K hK => ?_)
              iterate 1 (go_big_quiet_step (fail))
              refine wpQuiet_nil (hK _ ?_); clear hK K
              refine Dr.plan_done (tl := [_]) rfl ?_
              have f := hZ45.free 6
              have z : X45.cell? ⟨B4, 6, none⟩ = _ := hZ45.cell rfl
              go_wp2
              have zs9 := zs45.put (p := ⟨B4, 6, none⟩) (by simp; omega) (.slice (some ⟨N41, 0, none⟩) m m)
              have hb9 := hb45.put (p := ⟨B4, 6, none⟩) (by simp) (.slice (some ⟨N41, 0, none⟩) m m)
              have hZ9 := hZ45.set 6 (.slice (some ⟨N41, 0, none⟩) m m)
              have nd := zs9.nd
              simp at nd
              go_meet
              case rel => exact ⟨N42, N43, N41, by simpa using hZ9, zs9.at_ _ (by simp), zs9.at_ _ (by simp), zs9.at_ _ (by simp), by omega, by omega, by omega, hb9⟩
            · refine Dr.plan_e rfl (by rfl) (fun K hK => ?_)
              have f46 := hZ42.free 4
              have z46 : X42.cell? ⟨B4, 4, none⟩ = _ := hZ42.cell rfl
              go_wp2_with fail
              refine hK _ _ (Dr.Bel.store (by simp) _) ?_; clear hK K
              have zs46 := zs42.put (p := ⟨B4, 4, none⟩) (by simp; omega) (.slice (some ⟨N42, 0, none⟩) m m)
              have hZ46 := hZ42.set 4 (.slice (some ⟨N42, 0, none⟩) m m)
              have hb46 := hb42.put (p := ⟨B4, 4, none⟩) (by simp) (.slice (some ⟨N42, 0, none⟩) m m)
              generalize X42.setCell ⟨B4, 4, none⟩ (.slice (some ⟨N42, 0, none⟩) m m) = X46 at *
              clear f46 z46
              refine Dr.plan_e rfl (by rfl) (fun K hK => ?_)
              go_wp2_with fail
              refine hK _ _ (.of (ext_alloc _ _)) ?_; clear hK K
              have zs47 := zs46.mk1 hb46.size
              have hZ47 := hZ46.alloc (.cells ((tab m fun _ => 0).map (Value.int .i64)).toArray 3)
              have hb47 := hb46.then_below ((ext_alloc X46 (.cells ((tab m fun _ => 0).map (Value.int .i64)).toArray 3)).mono hb46.size)
              generalize X46.alloc (.cells ((tab m fun _ => 0).map (Value.int .i64)).toArray 3) = X47 at *
              generalize X46.heap.size = N47 at *
              refine Dr.plan_q (l := [_]) rfl (fun K hK => ?_)
              iterate 1 (go_big_quiet_step (fail))
              refine wpQuiet_nil (hK _ ?_); clear hK K
              refine Dr.plan_e rfl (by rfl) (fun K hK => ?_)
              have f48 := hZ47.free 5
              have z48 : X47.cell? ⟨B4, 5, none⟩ = _ := hZ47.cell rfl
              go_wp2_with fail
              refine hK _ _ (Dr.Bel.store (by simp) _) ?_; clear hK K
              have zs48 := zs47.put (p := ⟨B4, 5, none⟩) (by simp; omega) (.slice (some ⟨N47, 0, none⟩) m m)
              have hZ48 := hZ47.set 5 (.slice (some ⟨N47, 0, none⟩) m m)
              have hb48 := hb47.put (p := ⟨B4, 5, none⟩) (by simp) (.slice (some ⟨N47, 0, none⟩) m m)
              generalize X47.setCell ⟨B4, 5, none⟩ (.slice (some ⟨N47, 0, none⟩) m m) = X48 at *
              clear f48 z48
              refine Dr.plan_q (l := [_]) rfl (fun K hK => ?_)
              iterate 1 (go_big_quiet_step (fail))
              refine wpQuiet_nil (hK _ ?_); clear hK K
              refine Dr.plan_done (tl := [_]) rfl ?_
              have f := hZ48.free 6
              have z : X48.cell? ⟨B4, 6, none⟩ = _ := hZ48.cell rfl
              go_wp2
              have zs9 := zs48.put (p := ⟨B4, 6, none⟩) (by simp; omega) (.slice (some ⟨N41, 0, none⟩) m m)
              have hb9 := hb48.put (p := ⟨B4, 6, none⟩) (by simp) (.slice (some ⟨N41, 0, none⟩) m m)
              have hZ9 := hZ48.set 6 (.slice (some ⟨N41, 0, none⟩) m m)
              have nd := zs9.nd
              simp at nd
              go_meet
              case rel => exact ⟨N42, N47, N41, by simpa using hZ9, zs9.at_ _ (by simp), zs9.at_ _ (by simp), zs9.at_ _ (by simp), by omega, by omega, by omega, hb9⟩
          · refine Dr.plan_e rfl (by rfl) (fun K hK => ?_)
            go_wp2_with fail
            refine hK _ _ (.of (ext_alloc _ _)) ?_; clear hK K
            have zs49 := zs41.mk1 hb41.size
            have hZ49 := hZ41.alloc (.cells ((tab m fun _ => 0).map (Value.int .i64)).toArray 3)
            have hb49 := hb41.then_below ((ext_alloc X41 (.cells ((tab m fun _ => 0).map (Value.int .i64)).toArray 3)).mono hb41.size)
            generalize X41.alloc (.cells ((tab m fun _ => 0).map (Value.int .i64)).toArray 3) = X49 at *
            generalize X41.heap.size = N49 at *
            refine Dr.plan_e rfl (by rfl) (fun K hK => ?_)
            go_wp2_with fail
            refine hK _ _ (.of (ext_alloc _ _)) ?_; clear hK K
            have zs50 := zs49.mk1 hb49.size
            have hZ50 := hZ49.alloc (.cells ((tab m fun _ => 0).map (Value.int .i64)).toArray 3)
            have hb50 := hb49.then_below ((ext_alloc X49 (.cells ((tab m fun _ => 0).map (Value.int .i64)).toArray 3)).mono hb49.size)
            generalize X49.alloc (.cells ((tab m fun _ => 0).map (Value.int .i64)).toArray 3) = X50 at *
            generalize X49.heap.size = N50 at *
            refine Dr.plan_q (l := [_]) rfl (fun K hK => ?_)
            iterate 1 (go_big_quiet_step (fail))
            refine wpQuiet_nil (hK _ ?_); clear hK K
            refine Dr.plan_e rfl (by rfl) (fun K hK => ?_)
            have f51 := hZ50.free 4
            have z51 : X50.cell? ⟨B4, 4, none⟩ = _ := hZ50.cell rfl
            go_wp2_with fail
            refine hK _ _ (Dr.Bel.store (by simp) _) ?_; clear hK K
            have zs51 := zs50.put (p := ⟨B4, 4, none⟩) (by simp; omega) (.slice (some ⟨N50, 0, none⟩) m m)
            have hZ51 := hZ50.set 4 (.slice (some ⟨N50, 0, none⟩) m m)
            have hb51 := hb50.put (p := ⟨B4, 4, none⟩) (by simp) (.slice (some ⟨N50, 0, none⟩) m m)
            generalize X50.setCell ⟨B4, 4, none⟩ (.slice (some ⟨N50, 0, none⟩) m m) = X51 at *
            clear f51 z51
            refine Dr.plan_q (l := [_]) rfl (fun K hK => ?_)
            iterate 1 (go_big_quiet_step (fail))
            refine wpQuiet_nil (hK _ ?_); clear hK K
            refine Dr.plan_e rfl (by rfl) (fun K hK => ?_)
            have f52 := hZ51.free 5
            have z52 : X51.cell? ⟨B4, 5, none⟩ = _ := hZ51.cell rfl
            go_wp2_with fail
            refine hK _ _ (Dr.Bel.store (by simp) _) ?_; clear hK K
            have zs52 := zs51.put (p := ⟨B4, 5, none⟩) (by simp; omega) (.slice (some ⟨N49, 0, none⟩) m m)
            have hZ52 := hZ51.set 5 (.slice (some ⟨N49, 0, none⟩) m m)
            have hb52 := hb51.put (p := ⟨B4, 5, none⟩) (by simp) (.slice (some ⟨N49, 0, none⟩) m m)
            generalize X51.setCell ⟨B4, 5, none⟩ (.slice (some ⟨N49, 0, none⟩) m m) = X52 at *
            clear f52 z52
            refine Dr.plan_q (l := [_]) rfl (fun K hK => ?_)
            iterate 1 (go_big_quiet_step (fail))
            refine wpQuiet_nil (hK _ ?_); clear hK K
            refine Dr.plan_done (tl := [_]) rfl ?_
            have f := hZ52.free 6
            have z : X52.cell? ⟨B4, 6, none⟩ = _ := hZ52.cell rfl
            go_wp2
            have zs9 := zs52.put (p := ⟨B4, 6, none⟩) (by simp; omega) (.slice (some ⟨N41, 0, none⟩) m m)
            have hb9 := hb52.put (p := ⟨B4, 6, none⟩) (by simp) (.slice (some ⟨N41, 0, none⟩) m m)
            have hZ9 := hZ52.set 6 (.slice (some ⟨N41, 0, none⟩) m m)
            have nd := zs9.nd
            simp at nd
            go_meet
            case rel => exact ⟨N50, N49, N41, by simpa using hZ9, zs9.at_ _ (by simp), zs9.at_ _ (by simp), zs9.at_ _ (by simp), by omega, by omega, by omega, hb9⟩
      case rest =>
        obtain ⟨g1, g2, g3, hZ9, ⟨hg1, I1⟩, ⟨hg2, I2⟩, ⟨hg3, I3⟩, n12, n13, n23, hb9⟩ := hcut
        clear hmk
        have hp9 := hb9.blk hp8 (by simp; omega)
        have hb10 := hb8.trans hb9
        have hX9 := hb10.blk hXW (by simp; omega)
        have hY9 := hb10.blk hYW (by simp; omega)
        have hb11 := hb5.trans hb10
        have hB9 : Cells wc B 3 Ctr.enc wk.ctrs := by
          by_cases h0 : 0 < m
          · exact cells_bel hB2 hb11 (fun q hq => hBne q hq h0)
          · intro i x hi
            have := (List.getElem?_eq_some_iff.1 hi).1
            have := Hm.out
            omega
        have hv9 := cells_bel hv5 hb10 (fun q hq => by obtain ⟨A', c', e, -, -, -, h4⟩ := hfv5; cases e; have := (h4 q hq).1; simp; omega)
        have hu9 := cells_bel hu5 hb10 (fun q hq => by obtain ⟨A', c', e, -, -, -, h4⟩ := hfu5; cases e; have := (h4 q hq).1; simp; omega)
        have hbw9 : Below w.heap.size w wc := hb3.trans (hb11.old (by omega) (by simp; omega))
        have hs9 := hb9.size
        have L1 := I1.lt
        have L2 := I2.lt
        have L3 := I3.lt
        have hBlt : ∀ q, B.map (·.block) = some q → 0 < m → q < w.heap.size := fun q hq h0 => by
          obtain ⟨b, off, e, hlt, -⟩ := hB0.at3 (k := 0) (by rw [Hm.out]; exact h0) rfl
          subst e; simp at hq; subst hq; exact hlt
        clear hp8 hZ8 hb8 hXW hYW hb10 hb9 hB2 hX2 hY2
        have x2 : wc.cell? ⟨w.heap.size, 2, none⟩ = _ := hX9.cell rfl
        go_wp2_with fail
        refine (ranked_any wk.ctrs B m d wc Hm.out hm20 hB9 (fun x hx => (Hk.out.cok x hx).rk)).mono ?_; rintro e W6 ⟨vr, rfl, hvr, hb12⟩
        rw [show (fun i : Int => (ctrN wk.ctrs i.toNat).rank) = fun i : Int => (ctr wk i.toNat).rank from rfl] at hvr
        obtain ⟨R, cr, rfl, hr1, hr2, hr3, hr4⟩ := hvr
        rw [rank_len] at hr1 ⊢
        clear x2
        have hX6 := hX9.ext hb12
        have hY6 := hY9.ext hb12
        have hZ6 := hZ9.ext hb12
        have hp6 := hp9.ext hb12
        have J1 : IArr W6 g1 3 _ := I1.ext hb12
        have J2 : IArr W6 g2 3 _ := I2.ext hb12
        have J3 : IArr W6 g3 3 _ := I3.ext hb12
        have hB6 := hB9.ext hb12
        have hv6 := hv9.ext hb12
        have hu6 := hu9.ext hb12
        have hbw6 := ext_trans hbw9 hb12
        have hs6 := hb12.size
        clear hX9 hY9 hZ9 hp9 I1 I2 I3 hB9 hv9 hu9 hbw9 hb12
        go_wp2
        have Hord := Lib.hid (fun j (hj : j < m) => Wk.paidTo_succ wk (k := j) (by rw [wk.order_len, Hm.out]; exact hj))
        have Hbd := Lib.hid (fun j (hj : j ≤ m) => Hk.out.paidTo_bd j (by rw [wk.order_len, Hm.out]; exact hj))
        have Hp0 := Lib.hid (show wk.paidTo 0 = (wk.pot - wk.prem, fun _ => 0) from rfl)
        go_loopw [12, 91] (fun _ x wr => ∃ (j : Nat) (sh : Nat → Int), x = .int .i64 j ∧ j ≤ m ∧ Blk wr Bp 110 [.int .i64 (wk.paidTo j).1] ∧ IArr wr g1 3 (tab m (wk.paidTo j).2) ∧ IArr wr g2 3 (tab m sh) ∧ Hid (∀ i ∈ wk.order.take j, sh i = (ctr wk i).wage - (wk.paidTo j).2 i) ∧ Dr.Bel [Bp, g1, g2] W6 wr) (fun _ x _ => m - (intOf x).toNat)
        case atStart =>
          refine ⟨0, fun _ => 0, rfl, by omega, ?_, ?_, J2, Lib.hid (fun i hi => by simp at hi), Dr.Bel.refl _ _⟩
          · rw [Hp0.out, Hpt.out]; exact hp6
          · rw [Hp0.out]; exact J1
        case round =>
          clear hp6 J1 J2
          obtain ⟨j, sh, rfl, hj, hp, J1, J2, Hsh, hb⟩ := hrel
          by_cases hlt : j < m
          · have hlt' : (j : Int) < (m : Int) := by omega
            have hjo : j < wk.order.length := by rw [wk.order_len, Hm.out]; exact hlt
            have hjr : j < (rankL (fun i : Int => (ctr wk i.toNat).rank) m).length := by rw [rank_len]; exact hlt
            have hxm := rank_mem.1 (List.getElem_mem hjr)
            have hoj : wk.order[j] = ((rankL (fun i : Int => (ctr wk i.toNat).rank) m)[j]).toNat := by
              unfold Wk.order
              simp only [Hm.out]
              rw [List.getElem_map]
            obtain ⟨br, offr, rfl, hbr, c0⟩ := (hr3.keep (w' := wr) (fun q hq hA => by
              have h5 := hr4 _ hA
              rw [World.cell?_of_block (hb.block _ hq (by simp; omega))])).at1 hjr rfl
            generalize (rankL (fun i : Int => (ctr wk i.toNat).rank) m)[j] = xi at *
            obtain ⟨i, rfl⟩ := Int.eq_ofNat_of_zero_le hxm.1
            rw [Int.toNat_natCast] at hoj
            have him : i < m := by omega
            have hil : i < wk.ctrs.length := by rw [Hm.out]; exact him
            have hXr := hb.blk hX6 (by simp; omega)
            have hZr := hb.blk hZ6 (by simp; omega)
            obtain ⟨b, off, rfl, hlt6, d0, d1, d2⟩ := hB6.at3 hil rfl
            have hci : wk.ctrs[i] = ctr wk i := by simp [ctr, hil]
            have hwg := (Hk.out.cok _ (List.getElem_mem hil)).wg
            rw [hci] at d0 d1 d2 hwg
            have hbd := Hbd.out j (by omega)
            have hpay : wk.paidTo (j + 1) = ((wk.paidTo j).1 - min (wk.paidTo j).1 (ctr wk i).wage, upd (wk.paidTo j).2 i (min (wk.paidTo j).1 (ctr wk i).wage)) := by rw [Hord.out j hlt, hoj]; rfl
            have hsh2 : ∀ q ∈ wk.order.take (j + 1), upd sh i ((ctr wk i).wage - min (wk.paidTo j).1 (ctr wk i).wage) q = (ctr wk q).wage - (wk.paidTo (j + 1)).2 q := fun q hq => by
              rw [hpay]
              simp only [upd]
              by_cases e : q = i
              · subst e; rw [if_pos rfl, if_pos rfl]
              · rw [if_neg e, if_neg e]
                rw [List.take_succ_eq_append_getElem hjo, hoj] at hq
                rcases List.mem_append.1 hq with h | h
                · exact Hsh.out q h
                · simp at h; exact absurd h e
            have Hsh2 := Lib.hid hsh2
            have Hpay := Lib.hid hpay
            clear hsh2 hpay hoj hjo hjr hci
            generalize (ctr wk i).wage = wg at *
            generalize hpj : wk.paidTo j = PJ at *
            obtain ⟨lf, pf⟩ := PJ
            simp only at hp J1 hbd Hpay Hsh2 ⊢
            have hpi := hbd.2 i
            go_upto_region 19 with fail
            refine Dr.wp_region_plan 12 [Bp] (.q [0, 1, 2, 3, 4, 5, 6, 7, 8, 9] (.e1 10 (.q [11] .done))) (by kernel_rfl) (by kernel_rfl) ?_
            have hbd3 : Dr.Bel [Bp, g1, g2] W6 wr.drew := hb.then_below ((ext_drew wr).mono hb.size)
            have hpd := hp.drew
            have J1d : IArr wr.drew g1 3 _ := Blk.drew J1
            have J2d : IArr wr.drew g2 3 _ := Blk.drew J2
            have q0 := Dr.cls_cell (M := [Bp]) (hZr.drew.cell (i := 4) rfl) (by simp; omega)
            have q1 := Dr.cls_cell (M := [Bp]) (hXr.drew.cell (i := 2) rfl) (by simp; omega)
            have hbB := hBlt b (by simp) (by omega)
            have q2 := Dr.cls_cell (M := [Bp]) ((World.cell?_of_block (hbd3.block b hlt6 (by simp; omega))).trans d1) (by simp; omega)
            clear hp J1 J2 hb d0 d2 c0 hXr hZr
            generalize wr.drew = W at *
            refine Dr.plan_q (l := [_, _, _, _, _, _, _, _, _, _]) rfl (fun K hK => ?_)
            iterate 10 (go_big_quiet_step (fail))
            refine wpQuiet_nil (hK _ ?_); clear hK K
            clear q0 q1 q2
            refine Dr.plan_e rfl (by rfl) (fun K hK => ?_)
            go_wp2_with fail
            refine (pay_any Bp lf wg W (by omega) (by omega) hpd).mono ?_; rintro e w2 ⟨rfl, hw2⟩
            refine hK _ _ (by rw [hw2]; exact Dr.Bel.store (by simp) _) ?_; clear hK K
            have hp2 : Blk w2 Bp 110 [.int .i64 (lf - min lf wg)] := by rw [hw2]; exact hpd.set 0 _
            have J12 : IArr w2 g1 3 (tab m pf) := by rw [hw2]; exact J1d.other (by simp; omega) _
            have J22 : IArr w2 g2 3 (tab m sh) := by rw [hw2]; exact J2d.other (by simp; omega) _
            have hb2 : Dr.Bel [Bp, g1, g2] W6 w2 := by rw [hw2]; exact hbd3.put (by simp) _
            clear hw2 hpd J1d J2d hbd3
            generalize hmn : min lf wg = mn at *
            have hmn2 : 0 ≤ mn ∧ mn ≤ wg := by omega
            refine Dr.plan_q (l := [_]) rfl (fun K hK => ?_)
            iterate 1 (go_big_quiet_step (fail))
            refine wpQuiet_nil (hK _ ?_); clear hK K
            have c1 : w2.cell? ⟨g1, i, none⟩ = _ := J12.cell (tab_get _ him)
            have f1 := J12.free i
            refine Dr.plan_done (tl := [_]) rfl ?_
            go_upto_region 20 with fail
            have hp3 := hp2.other (p := ⟨g1, i, none⟩) (by simp; omega) (.int .i64 mn)
            have J13 := J12.set i mn
            have J23 := J22.other (p := ⟨g1, i, none⟩) (by simp; omega) (.int .i64 mn)
            have hb3 := hb2.put (p := ⟨g1, i, none⟩) (by simp) (.int .i64 mn)
            rw [tab_set] at J13
            clear hp2 J12 J22 hb2 c1 f1
            generalize w2.setCell ⟨g1, i, none⟩ (.int .i64 mn) = W3 at *
            refine Dr.wp_region_plan 16 [] (.q [0, 1, 2, 3, 4, 5, 6, 7, 8, 9, 10, 11, 12, 13, 14, 15] .done) (by kernel_rfl) (by kernel_rfl) ?_
            have hb4 : Dr.Bel [Bp, g1, g2] W6 W3.drew := hb3.then_below ((ext_drew W3).mono hb3.size)
            have hp4 := hp3.drew
            have J14 : IArr W3.drew g1 3 _ := Blk.drew J13
            have J24 : IArr W3.drew g2 3 _ := Blk.drew J23
            clear hp3 J13 J23 hb3
            generalize W3.drew = W4 at *
            have hZ4 := hb4.blk hZ6 (by simp; omega)
            have hX4 := hb4.blk hX6 (by simp; omega)
            have q0 := Dr.cell0 (hZ4.cell (i := 5) rfl)
            have q1 := Dr.cell0 (hX4.cell (i := 2) rfl)
            have q2 := Dr.cell0 ((World.cell?_of_block (hb4.block b hlt6 (by simp; omega))).trans d1)
            have q3 := Dr.cell0 (hZ4.cell (i := 4) rfl)
            have q4 := Dr.cell0 (J14.cell (i := i) (tab_get _ him))
            rw [upd_self] at q4
            refine Dr.plan_q (l := [_, _, _, _, _, _, _, _, _, _, _, _, _, _, _, _]) rfl (fun K hK => ?_)
            iterate 16 (go_big_quiet_step (fail))
            refine wpQuiet_nil (hK _ ?_); clear hK K
            clear q0 q1 q2 q3 q4
            have c1 : W4.cell? ⟨g2, i, none⟩ = _ := J24.cell (tab_get _ him)
            have f1 := J24.free i
            refine Dr.plan_done (tl := [_]) rfl ?_
            go_wp2
            have J25 := J24.set i (wg - mn)
            rw [tab_set] at J25
            go_roundw
            case rel =>
              refine ⟨j + 1, upd sh i (wg - mn), by go_num, by omega, ?_, ?_, J25, Lib.hid Hsh2.out, hb4.put (by simp) _⟩
              · rw [Hpay.out]; exact hp4.other (by simp; omega) _
              · rw [Hpay.out]; exact J14.other (by simp; omega) _
            case measure => simp [intOf]; omega
          · obtain rfl : j = m := by omega
            have hbd := Hbd.out j (by omega)
            have hlf : (wk.paidTo j).1 = wk.left := by unfold Wk.left; rw [Hm.out]
            have hpd : (wk.paidTo j).2 = wk.paid := by unfold Wk.paid; rw [Hm.out]
            rw [hlf] at hp
            rw [hpd] at J1
            have hsh : tab j sh = tab j (fun i => (ctr wk i).wage - wk.paid i) := tab_congr (fun i hi => by
              have := Hsh.out i (by rw [List.take_of_length_le (by rw [wk.order_len, Hm.out]; omega)]; exact wk.order_mem (by rw [Hm.out]; exact hi))
              rw [hpd] at this
              exact this)
            rw [hsh] at J2
            have hleft := Hk.out.left
            have HE := Lib.hid (fun i (hi : i < j) => Hk.out.extra (i := i) (by rw [Hm.out]; exact hi))
            have J3r : IArr wr g3 3 _ := hb.blk J3 (by simp; omega)
            rw [← parN_zero j wk.extra] at J3r
            have hXr := hb.blk hX6 (by simp; omega)
            have hZr := hb.blk hZ6 (by simp; omega)
            have hYr := hb.blk hY6 (by simp; omega)
            have hBr : Cells wr B 3 Ctr.enc wk.ctrs := by
              by_cases h0 : 0 < j
              · exact cells_bel hB6 hb (fun q hq => by have h7 := hBlt q hq h0; simp; omega)
              · intro i x hi
                have := (List.getElem?_eq_some_iff.1 hi).1
                have := Hm.out
                omega
            have hvr := cells_bel hv6 hb (fun q hq => by obtain ⟨A', c', e, -, -, -, h4⟩ := hfv5; cases e; have := (h4 q hq).1; have := (h4 q hq).2; have := HBp.out; simp; omega)
            have hur := cells_bel hu6 hb (fun q hq => by obtain ⟨A', c', e, -, -, -, h4⟩ := hfu5; cases e; have := (h4 q hq).1; have := (h4 q hq).2; have := HBp.out; simp; omega)
            have hbwr : Below w.heap.size w wr := hbw6.trans (hb.old (by omega) (by simp; omega))
            have hsr := hb.size
            clear hX6 hY6 hZ6 hB6 hv6 hu6 hb hbw6 J3 hr3 hr4 Hsh Hord Hbd Hp0 hlf hpd hsh
            have x2 : wr.cell? ⟨w.heap.size, 2, none⟩ = _ := hXr.cell rfl
            go_wp2
            clear x2
            generalize wr = W7 at *
            go_loopw [13, 14, 127] (fun _ _ x wr => ∃ i : Nat, x = .int .i64 i ∧ i ≤ j ∧ IArr wr g3 3 (parN j wk.extra i) ∧ Dr.Bel [g3] W7 wr) (fun _ _ x _ => j - (intOf x).toNat)
            case atStart => exact ⟨0, rfl, by omega, J3r, Dr.Bel.refl _ _⟩
            case round =>
              clear J3r
              obtain ⟨i, rfl, hi, J3, hb⟩ := hrel
              by_cases hlt : i < j
              · have hlt' : (i : Int) < (j : Int) := by omega
                have hil : i < wk.ctrs.length := by rw [Hm.out]; exact hlt
                obtain ⟨b, off, rfl, hlt7, d0, d1, d2⟩ := hBr.at3 hil rfl
                have hbB := hBlt b (by simp) (by omega)
                have hci : wk.ctrs[i] = ctr wk i := by simp [ctr, hil]
                rw [hci] at d0 d1 d2
                have he := HE.out i hlt
                have hxe : wk.left * (ctr wk i).share / 1000 = wk.extra i := rfl
                have Hxe := Lib.hid hxe
                clear hxe hci
                generalize ctr wk i = cx at *
                obtain ⟨r1, r2, r3⟩ := cx
                simp only at d0 d1 d2 he Hxe
                have e0 := (World.cell?_of_block (hb.block b hlt7 (by simp; omega))).trans d0
                have e1 := (World.cell?_of_block (hb.block b hlt7 (by simp; omega))).trans d1
                have e2 := (World.cell?_of_block (hb.block b hlt7 (by simp; omega))).trans d2
                generalize hlq : wk.left = lf at *
                go_upto_region 25 with fail
                have hU := Blk.new wr 41 [.int .i64 r1, .int .i64 r2, .int .i64 r3]
                have hb2 := hb.then_below ((ext_alloc wr (.cells #[.int .i64 r1, .int .i64 r2, .int .i64 r3] 41)).mono hb.size)
                have J32 : IArr _ g3 3 _ := Blk.alloc J3 (.cells #[.int .i64 r1, .int .i64 r2, .int .i64 r3] 41)
                change Blk (wr.alloc (.cells #[.int .i64 r1, .int .i64 r2, .int .i64 r3] 41)) _ _ _ at hU
                have hg3 := J3.lt
                clear hb J3 d0 d1 d2 e0 e1 e2
                generalize wr.alloc (.cells #[.int .i64 r1, .int .i64 r2, .int .i64 r3] 41) = W8 at *
                generalize wr.heap.size = U at *
                refine Dr.wp_region_plan 12 [] (.q [0, 1, 2, 3, 7, 8] (.e1 4 (.q [5, 6, 9, 10, 11] .done))) (by kernel_rfl) (by kernel_rfl) ?_
                have hb3 := hb2.then_below ((ext_drew W8).mono hb2.size)
                have J33 : IArr W8.drew g3 3 _ := Blk.drew J32
                have hU3 := hU.drew
                clear hb2 J32 hU
                generalize W8.drew = W at *
                have hZ3 := hb3.blk hZr (by simp; omega)
                have hp3 := hb3.blk hp (by simp; omega)
                have q0 := Dr.cell0 (hZ3.cell (i := 6) rfl)
                have q1 := Dr.cell0 (hU3.cell (i := 2) rfl)
                have q2 := Dr.cell0 (hp3.cell (i := 0) rfl)
                refine Dr.plan_q (l := [_, _, _, _, _, _]) rfl (fun K hK => ?_)
                iterate 6 (go_big_quiet_step (fail))
                refine wpQuiet_nil (hK _ ?_); clear hK K
                refine Dr.plan_e rfl (by rfl) (fun K hK => ?_)
                go_wp2_with fail
                refine hK _ _ (.refl _ _) ?_; clear hK K
                refine Dr.plan_q (l := [_, _, _, _, _]) rfl (fun K hK => ?_)
                iterate 5 (go_big_quiet_step (fail))
                refine wpQuiet_nil (hK _ ?_); clear hK K
                clear q0 q1 q2
                rw [Hxe.out]
                have c1 : W.cell? ⟨g3, i, none⟩ = _ := J33.cell (parN_get _ hlt)
                have f1 := J33.free i
                refine Dr.plan_done (tl := [_]) rfl ?_
                go_wp2
                have J34 := J33.set i (wk.extra i)
                rw [parN_set] at J34
                go_roundw
                case rel => exact ⟨i + 1, by go_num, by omega, J34, hb3.put (by simp) _⟩
                case measure => simp [intOf]; omega
              · obtain rfl : i = j := by omega
                rw [parN_full] at J3
                have hZ8 := hb.blk hZr (by simp; omega)
                have hY8 := hb.blk hYr (by simp; omega)
                have hp8 := hb.blk hp (by simp; omega)
                have K1 : IArr wr g1 3 _ := hb.blk J1 (by simp; omega)
                have K2 : IArr wr g2 3 _ := hb.blk J2 (by simp; omega)
                have hv8 := cells_bel hvr hb (fun q hq => by obtain ⟨A', c', e, -, -, -, h4⟩ := hfv5; cases e; have := (h4 q hq).1; have := (h4 q hq).2; have := HBp.out; simp; omega)
                have hu8 := cells_bel hur hb (fun q hq => by obtain ⟨A', c', e, -, -, -, h4⟩ := hfu5; cases e; have := (h4 q hq).1; have := (h4 q hq).2; have := HBp.out; simp; omega)
                have hbw8 : Below w.heap.size w wr := hbwr.trans (hb.old (by omega) (by simp; omega))
                have hs88 := hb.size
                have S3 := Lib.hid (fun W hc => sum_any (some ⟨g3, 0, none⟩) i i (tab i wk.extra) W (tab_len _ _) (by omega) hc (fun y hy => by obtain ⟨q, hq, rfl⟩ := mem_tab hy; have := (HE.out q hq).2; omega))
                have hsb : 0 ≤ isum (tab i wk.extra) ∧ isum (tab i wk.extra) ≤ 20 * 8000000000000000 := by
                  have h1 := isum_nonneg (l := tab i wk.extra) (fun y hy => by obtain ⟨q, hq, rfl⟩ := mem_tab hy; exact (HE.out q hq).2.1)
                  have h2 := isum_le (l := tab i wk.extra) (m := 8000000000000000) (fun y hy => by obtain ⟨q, hq, rfl⟩ := mem_tab hy; exact (HE.out q hq).2.2)
                  rw [tab_len] at h2
                  refine ⟨h1, Int.le_trans h2 (Int.mul_le_mul_of_nonneg_right (by omega) (by omega))⟩
                have HSI := Lib.hid (show isum (tab i wk.extra) = isum (tab i wk.extra) from rfl)
                go_upto_region 27 with fail
                go_cut [] (fun W' => Blk W' B4 61 [.slice v1 k v2, .slice u1 k u2, .int .i64 wk.prem, .int .i64 (prem - wk.prem), .slice (some ⟨g1, 0, none⟩) i i, .slice (some ⟨g2, 0, none⟩) i i, .slice (some ⟨g3, 0, none⟩) i i, .int .i64 (wk.left - isum (tab i wk.extra))] ∧ Dr.Bel [B4] wr W')
                case first =>
                  refine Dr.wp_region_plan 9 [] (.q [0, 4, 5] (.e2 1 (.q [2, 3] (.e1 6 (.q [7, 8] .done))) 6 (.e1 1 (.q [2, 3, 7, 8] .done)))) (by kernel_rfl) (by kernel_rfl) ?_
                  have hZ := hZ8.drew
                  have hb9 : Dr.Bel [B4] wr wr.drew := .of (ext_drew wr)
                  have hpd := hp8.drew
                  have J3d : IArr wr.drew g3 3 _ := Blk.drew J3
                  clear hZ8 hp8 J3
                  generalize wr.drew = W at *
                  have q0 := Dr.cell0 (hZ.cell (i := 6) rfl)
                  have q1 := Dr.cell0 (hpd.cell (i := 0) rfl)
                  refine Dr.plan_q (l := [_, _, _]) rfl (fun K hK => ?_)
                  iterate 3 (go_big_quiet_step (fail))
                  refine wpQuiet_nil (hK _ ?_); clear hK K
                  refine Dr.plan_e2 ?_ ?_
                  · refine Dr.plan_e rfl (by rfl) (fun K hK => ?_)
                    go_wp2_with fail
                    refine hK _ _ (.refl _ _) ?_; clear hK K
                    refine Dr.plan_q (l := [_, _]) rfl (fun K hK => ?_)
                    iterate 2 (go_big_quiet_step (fail))
                    refine wpQuiet_nil (hK _ ?_); clear hK K
                    refine Dr.plan_e rfl (by rfl) (fun K hK => ?_)
                    go_wp2_with fail
                    refine (S3.out _ J3d.cells).mono ?_; rintro e w2 ⟨rfl, rfl⟩
                    refine hK _ _ (.refl _ _) ?_; clear hK K
                    refine Dr.plan_q (l := [_, _]) rfl (fun K hK => ?_)
                    iterate 2 (go_big_quiet_step (fail))
                    refine wpQuiet_nil (hK _ ?_); clear hK K
                    clear q0 q1
                    have z7 : W.cell? ⟨B4, 7, none⟩ = _ := hZ.cell rfl
                    have f7 := hZ.free 7
                    refine Dr.plan_done (tl := [_]) rfl ?_
                    go_wp2
                    go_meet
                    case rel => exact ⟨by simpa using hZ.set 7 (.int .i64 (wk.left - isum (tab i wk.extra))), hb9.put (by simp) _⟩
                  · refine Dr.plan_e rfl (by rfl) (fun K hK => ?_)
                    go_wp2_with fail
                    refine (S3.out _ J3d.cells).mono ?_; rintro e w2 ⟨rfl, rfl⟩
                    refine hK _ _ (.refl _ _) ?_; clear hK K
                    refine Dr.plan_e rfl (by rfl) (fun K hK => ?_)
                    go_wp2_with fail
                    refine hK _ _ (.refl _ _) ?_; clear hK K
                    refine Dr.plan_q (l := [_, _, _, _]) rfl (fun K hK => ?_)
                    iterate 4 (go_big_quiet_step (fail))
                    refine wpQuiet_nil (hK _ ?_); clear hK K
                    clear q0 q1
                    have z7 : W.cell? ⟨B4, 7, none⟩ = _ := hZ.cell rfl
                    have f7 := hZ.free 7
                    refine Dr.plan_done (tl := [_]) rfl ?_
                    go_wp2
                    go_meet
                    case rel => exact ⟨by simpa using hZ.set 7 (.int .i64 (wk.left - isum (tab i wk.extra))), hb9.put (by simp) _⟩
                case rest =>
                  obtain ⟨hZ9, hb9⟩ := hcut
                  have hY9 := hb9.blk hY8 (by simp; omega)
                  have K19 : IArr wc g1 3 _ := hb9.blk K1 (by simp; omega)
                  have K29 : IArr wc g2 3 _ := hb9.blk K2 (by simp; omega)
                  have K39 : IArr wc g3 3 _ := hb9.blk J3 (by simp; omega)
                  have hv9 := cells_bel hv8 hb9 (fun q hq => by obtain ⟨A', c', e, -, -, -, h4⟩ := hfv5; cases e; have := (h4 q hq).1; simp; omega)
                  have hu9 := cells_bel hu8 hb9 (fun q hq => by obtain ⟨A', c', e, -, -, -, h4⟩ := hfu5; cases e; have := (h4 q hq).1; simp; omega)
                  have hbw9 : Below w.heap.size w wc := hbw8.trans (hb9.old (by omega) (by simp; omega))
                  have hs9 := hb9.size
                  clear S3 hZ8 hY8 hp8 K1 K2 J3 hv8 hu8 hbw8 hb9 hv5 hu5
                  generalize hr : wk.left - isum (tab i wk.extra) = rest at *
                  generalize hl : prem - wk.prem = lacks at *
                  generalize hpp : wk.prem = pm at *
                  have z0 : wc.cell? ⟨B4, 0, none⟩ = _ := hZ9.cell rfl
                  have z1 : wc.cell? ⟨B4, 1, none⟩ = _ := hZ9.cell rfl
                  have z2 : wc.cell? ⟨B4, 2, none⟩ = _ := hZ9.cell rfl
                  have z3 : wc.cell? ⟨B4, 3, none⟩ = _ := hZ9.cell rfl
                  have z4 : wc.cell? ⟨B4, 4, none⟩ = _ := hZ9.cell rfl
                  have z5 : wc.cell? ⟨B4, 5, none⟩ = _ := hZ9.cell rfl
                  have z6 : wc.cell? ⟨B4, 6, none⟩ = _ := hZ9.cell rfl
                  have z7 : wc.cell? ⟨B4, 7, none⟩ = _ := hZ9.cell rfl
                  have y0 : wc.cell? ⟨w.heap.size + 1, 0, none⟩ = _ := hY9.cell rfl
                  have y1 : wc.cell? ⟨w.heap.size + 1, 1, none⟩ = _ := hY9.cell rfl
                  have y2 : wc.cell? ⟨w.heap.size + 1, 2, none⟩ = _ := hY9.cell rfl
                  have y3 : wc.cell? ⟨w.heap.size + 1, 3, none⟩ = _ := hY9.cell rfl
                  have y4 : wc.cell? ⟨w.heap.size + 1, 4, none⟩ = _ := hY9.cell rfl
                  have y5 : wc.cell? ⟨w.heap.size + 1, 5, none⟩ = _ := hY9.cell rfl
                  have y6 : wc.cell? ⟨w.heap.size + 1, 6, none⟩ = _ := hY9.cell rfl
                  have y7 : wc.cell? ⟨w.heap.size + 1, 7, none⟩ = _ := hY9.cell rfl
                  have f0 := hY9.free 0
                  have f1 := hY9.free 1
                  have f2 := hY9.free 2
                  have f3 := hY9.free 3
                  have f4 := hY9.free 4
                  have f5 := hY9.free 5
                  have f6 := hY9.free 6
                  have f7 := hY9.free 7
                  go_wp2
                  generalize hWf : World.setCell _ _ _ = Wf
                  have hYf := hY9.put_eq [.slice v1 k v2, .slice u1 k u2, .int .i64 pm, .int .i64 lacks, .slice (some ⟨g1, 0, none⟩) i i, .slice (some ⟨g2, 0, none⟩) i i, .slice (some ⟨g3, 0, none⟩) i i, .int .i64 rest] hWf rfl
                  have hbf : Dr.Bel [w.heap.size + 1] wc Wf := bel_put_eq [.slice v1 k v2, .slice u1 k u2, .int .i64 pm, .int .i64 lacks, .slice (some ⟨g1, 0, none⟩) i i, .slice (some ⟨g2, 0, none⟩) i i, .slice (some ⟨g3, 0, none⟩) i i, .int .i64 rest] hWf
                  clear hWf z0 z1 z2 z3 z4 z5 z6 z7 y0 y1 y2 y3 y4 y5 y6 y7 f0 f1 f2 f3 f4 f5 f6 f7
                  have o0 : Wf.cell? ⟨w.heap.size + 1, 0, none⟩ = _ := hYf.cell rfl
                  have o1 : Wf.cell? ⟨w.heap.size + 1, 1, none⟩ = _ := hYf.cell rfl
                  have o2 : Wf.cell? ⟨w.heap.size + 1, 2, none⟩ = _ := hYf.cell rfl
                  have o3 : Wf.cell? ⟨w.heap.size + 1, 3, none⟩ = _ := hYf.cell rfl
                  have o4 : Wf.cell? ⟨w.heap.size + 1, 4, none⟩ = _ := hYf.cell rfl
                  have o5 : Wf.cell? ⟨w.heap.size + 1, 5, none⟩ = _ := hYf.cell rfl
                  have o6 : Wf.cell? ⟨w.heap.size + 1, 6, none⟩ = _ := hYf.cell rfl
                  have o7 : Wf.cell? ⟨w.heap.size + 1, 7, none⟩ = _ := hYf.cell rfl
                  refine bodyPost_ret (v := .tuple #[.agg #[.slice v1 k v2, .slice u1 k u2, .int .i64 pm, .int .i64 lacks, .slice (some ⟨g1, 0, none⟩) i i, .slice (some ⟨g2, 0, none⟩) i i, .slice (some ⟨g3, 0, none⟩) i i, .int .i64 rest], .int .i64 0]) (by simp [results, Try.results13, go_sem, o0, o1, o2, o3, o4, o5, o6, o7]) rfl ?_
                  have hsf := hbf.size
                  have hSS := HS.out
                  rw [← hSS]
                  unfold Wk.settle
                  simp only [Hm.out, Hprem.out, hpp, hl, hr]
                  have hgl : (wk.ctys.map Cty.gross).length = k := by simpa using Hn.out
                  have htl : (wk.ctys.map Cty.taxes).length = k := by simpa using Hn.out
                  have hrow : ∀ (g : Nat) (f : Nat → Int), W5.heap.size ≤ g → IArr wc g 3 (tab i f) → FreshL w Wf 1 encI (.slice (some ⟨g, 0, none⟩) i i) (tab i f) := fun g f hg hI => by
                    have hI2 : IArr Wf g 3 (tab i f) := hbf.blk hI (by simp; omega)
                    exact ⟨some ⟨g, 0, none⟩, i, by rw [tab_len], by rw [tab_len]; exact Nat.le_refl _, by unfold maxLen; omega, hI2.cells, fun q hq => by simp at hq; subst hq; exact ⟨by omega, hI2.lt⟩⟩
                  refine ⟨_, _, _, _, _, rfl, ?_, ?_, hrow g1 _ hg1 K19, hrow g2 _ hg2 K29, hrow g3 _ hg3 K39, hbw9.trans (hbf.old (by omega) (by simp))⟩
                  · obtain ⟨A', c', e, q1, q2, -, h4⟩ := hfv5
                    rw [hgl] at e
                    cases e
                    refine ⟨v1, v2, by rw [hgl], q1, q2, cells_bel hv9 hbf (fun q hq => by have := (h4 q hq).1; simp; omega), fun q hq => ?_⟩
                    have h5 := h4 q hq
                    have h6 := HBp.out
                    omega
                  · obtain ⟨A', c', e, q1, q2, -, h4⟩ := hfu5
                    rw [htl] at e
                    cases e
                    refine ⟨u1, u2, by rw [htl], q1, q2, cells_bel hu9 hbf (fun q hq => by have := (h4 q hq).1; simp; omega), fun q hq => ?_⟩
                    have h5 := h4 q hq
                    have h6 := HBp.out
                    omega
end Go.Proofs.Ytilkoooahoecfaa

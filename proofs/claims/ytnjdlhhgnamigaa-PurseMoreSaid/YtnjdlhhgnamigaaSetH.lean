/- Walk: the reference's Settle. -/
import Derived.Test.YtnjdlhhgnamigaaSetF
import Derived.Test.YtnjdlhhgnamigaaSetG
import Derived.Test.YtnjdlhhgnamigaaSetR
namespace Go.Proofs.Ytnjdlhhgnamigaa
open Go.RowKit Go.Bs Go.Pu Go.Pl Go.Sort

theorem isum_tab_succ (f : Nat → Int) (n : Nat) : isum (tab (n + 1) f) = isum (tab n f) + f n := by
  unfold tab
  rw [List.range_succ, List.map_append, isum_append]
  simp [isum]
theorem isum_tab_bd (f : Nat → Int) (m : Int) (n : Nat) (h : ∀ q, q < n → 0 ≤ f q ∧ f q ≤ m) : 0 ≤ isum (tab n f) ∧ isum (tab n f) ≤ n * m := by
  have h1 := isum_nonneg (l := tab n f) (fun y hy => by obtain ⟨q, hq, rfl⟩ := mem_tab hy; exact (h q hq).1)
  have h2 := isum_le (l := tab n f) (m := m) (fun y hy => by obtain ⟨q, hq, rfl⟩ := mem_tab hy; exact (h q hq).2)
  rw [tab_len] at h2
  exact ⟨h1, h2⟩
theorem parN_at {n k : Nat} (f : Nat → Int) (h : k < n) : (parN n f (k + 1))[k]? = some (f k) := by
  unfold parN
  rw [tab_get _ h, if_pos (by omega)]

set_option maxRecDepth 100000 in
set_option maxHeartbeats 4000000 in
theorem SettleR_any (wk : Wk) (A B : Option Addr) (n c m d : Nat) (w : World) (hn : wk.ctys.length = n) (hm : wk.ctrs.length = m) (hA : Cells w A 4 Cty.enc wk.ctys) (hB : Cells w B 3 Ctr.enc wk.ctrs) (hok : wk.okB = true) :
    Calls Try.prog 21 #[wkV A n c wk.premium B m d] w fun e w' => ∃ v, e = .returned v ∧ PayAt w' v wk.settle ∧ Below w.heap.size w w' := by
  have hk := (wk.okB_iff).1 hok
  have hb0 := (ext_alloc w (.cells #[.slice A n c, .int .i64 wk.premium, .slice B m d] 25)).trans ((ext_alloc _ (.cells #[.slice none 0 0, .slice none 0 0, .int .i64 0, .int .i64 0, .slice none 0 0, .slice none 0 0, .slice none 0 0, .int .i64 0] 40)).mono (by simp))
  have hX := (Blk.new w 25 [.slice A n c, .int .i64 wk.premium, .slice B m d]).alloc (.cells #[.slice none 0 0, .slice none 0 0, .int .i64 0, .int .i64 0, .slice none 0 0, .slice none 0 0, .slice none 0 0, .int .i64 0] 40)
  have hY := Blk.new (w.alloc (.cells #[.slice A n c, .int .i64 wk.premium, .slice B m d] 25)) 40 [.slice none 0 0, .slice none 0 0, .int .i64 0, .int .i64 0, .slice none 0 0, .slice none 0 0, .slice none 0 0, .int .i64 0]
  rw [World.size_alloc] at hY
  have hsz : ((w.alloc (.cells #[.slice A n c, .int .i64 wk.premium, .slice B m d] 25)).alloc (.cells #[.slice none 0 0, .slice none 0 0, .int .i64 0, .int .i64 0, .slice none 0 0, .slice none 0 0, .slice none 0 0, .int .i64 0] 40)).heap.size = w.heap.size + 2 := by simp
  unfold wkV
  have Hn := Lib.hid hn
  have Hm := Lib.hid hm
  have Hk := Lib.hid hk
  have hn8 := hk.n
  have hm20 := hk.m
  have hpr := hk.pr
  rw [hn] at hn8
  rw [hm] at hm20
  clear hn hm hok hk
  generalize hS : wk.settle = S
  have HS := Lib.hid hS
  clear hS
  generalize hprem : wk.premium = prem at *
  have Hprem := Lib.hid hprem
  clear hprem
  go_enter Try.func21, Try.ntmps21
  go_upto_region 1 with fail
  change Blk ((w.alloc (.cells #[.slice A n c, .int .i64 prem, .slice B m d] 25)).alloc (.cells #[.slice none 0 0, .slice none 0 0, .int .i64 0, .int .i64 0, .slice none 0 0, .slice none 0 0, .slice none 0 0, .int .i64 0] 40)) (w.heap.size + 1) 40 _ at hY
  generalize (w.alloc (.cells #[.slice A n c, .int .i64 prem, .slice B m d] 25)).alloc (.cells #[.slice none 0 0, .slice none 0 0, .int .i64 0, .int .i64 0, .slice none 0 0, .slice none 0 0, .slice none 0 0, .int .i64 0] 40) = w1 at *
  go_upto_region 2 with fail
  have hZ := Blk.new w1 40 [.slice none 0 0, .slice none 0 0, .int .i64 0, .int .i64 0, .slice none 0 0, .slice none 0 0, .slice none 0 0, .int .i64 0]
  have hX2 := hX.alloc (.cells #[.slice none 0 0, .slice none 0 0, .int .i64 0, .int .i64 0, .slice none 0 0, .slice none 0 0, .slice none 0 0, .int .i64 0] 40)
  have hY2 := hY.alloc (.cells #[.slice none 0 0, .slice none 0 0, .int .i64 0, .int .i64 0, .slice none 0 0, .slice none 0 0, .slice none 0 0, .int .i64 0] 40)
  have hb3 := ext_trans hb0 (ext_alloc w1 (.cells #[.slice none 0 0, .slice none 0 0, .int .i64 0, .int .i64 0, .slice none 0 0, .slice none 0 0, .slice none 0 0, .int .i64 0] 40))
  have hs2 : (w1.alloc (.cells #[.slice none 0 0, .slice none 0 0, .int .i64 0, .int .i64 0, .slice none 0 0, .slice none 0 0, .slice none 0 0, .int .i64 0] 40)).heap.size = w1.heap.size + 1 := by simp
  change Blk (w1.alloc (.cells #[.slice none 0 0, .slice none 0 0, .int .i64 0, .int .i64 0, .slice none 0 0, .slice none 0 0, .slice none 0 0, .int .i64 0] 40)) _ _ _ at hZ
  generalize w1.alloc (.cells #[.slice none 0 0, .slice none 0 0, .int .i64 0, .int .i64 0, .slice none 0 0, .slice none 0 0, .slice none 0 0, .int .i64 0] 40) = W2 at *
  rw [hsz] at hZ hs2
  clear hX hY hb0 hsz
  generalize hB4 : w.heap.size + 2 = B4 at *
  have hA2 := hA.ext hb3
  have hB2 := hB.ext hb3
  have hAlt : ∀ q, A.map (·.block) = some q → q < w.heap.size := fun q hq => by
    obtain ⟨b, off, e, hlt, -⟩ := hA.at4 (k := 0) (by rw [Hn.out]; omega) rfl
    subst e; simp at hq; subst hq; exact hlt
  have hBlt : ∀ q, B.map (·.block) = some q → 0 < m → q < w.heap.size := fun q hq h0 => by
    obtain ⟨b, off, e, hlt, -⟩ := hB.at3 (k := 0) (by rw [Hm.out]; exact h0) rfl
    subst e; simp at hq; subst hq; exact hlt
  clear hA hB
  go_wp2
  go_loopw [4, 5, 6, 7, 8] (fun lf x _ _ _ wr => ∃ (k : Nat) (v u : Value), x = .int .i64 k ∧ lf = .int .i64 (isum ((wk.ctys.take k).map Cty.gross) - isum ((wk.ctys.take k).map Cty.taxes)) ∧ k ≤ n ∧ OwnL wr W2.heap.size 3 1 encI v ((wk.ctys.take k).map Cty.gross) ∧ OwnL wr W2.heap.size 3 1 encI u ((wk.ctys.take k).map Cty.taxes) ∧ Hid (v.ownBlock = none ∨ u.ownBlock = none ∨ v.ownBlock ≠ u.ownBlock) ∧
    Blk wr B4 40 [v, u, .int .i64 0, .int .i64 0, .slice none 0 0, .slice none 0 0, .slice none 0 0, .int .i64 0] ∧ Dr.Bel [B4] W2 wr) (fun _ x _ _ _ _ => n - (intOf x).toNat)
  case atStart => exact ⟨0, _, _, rfl, rfl, by omega, OwnL.nil, OwnL.nil, Lib.hid (.inl rfl), hZ, Dr.Bel.refl _ _⟩
  case round =>
    clear hZ
    obtain ⟨k, v, u, rfl, rfl, hk, hov, hou, Hne, hZ, hb⟩ := hrel
    have hXr := hb.blk hX2 (by simp; omega)
    have x0 : wr.cell? ⟨w.heap.size, 0, none⟩ = _ := hXr.cell rfl
    by_cases hlt : k < n
    · have hlt' : (k : Int) < (n : Int) := by omega
      have hkl : k < wk.ctys.length := by rw [Hn.out]; exact hlt
      obtain ⟨b, off, rfl, -, c0, c1, c2, c3⟩ := (cells_bel hA2 hb (fun q hq => by have := hAlt q hq; simp; omega)).at4 hkl rfl
      have Ht := Lib.hid (List.take_succ_eq_append_getElem hkl)
      have hck := Hk.out.yok _ (List.getElem_mem hkl)
      have hsg := isum_map_take_succ Cty.gross wk.ctys k hkl
      have hst := isum_map_take_succ Cty.taxes wk.ctys k hkl
      have hgb := isum_map_bd Cty.gross (wk.ctys.take k) 1000000000000000 (fun x hx => (Hk.out.yok x (List.mem_of_mem_take hx)).gross)
      have htb := isum_map_bd Cty.taxes (wk.ctys.take k) 1000000000000000 (fun x hx => by have h1 := (Hk.out.yok x (List.mem_of_mem_take hx)).gross; have h2 := (Hk.out.yok x (List.mem_of_mem_take hx)).taxes; omega)
      have hl8 : ((wk.ctys.take k).length : Int) ≤ 8 := by simp; omega
      generalize wk.ctys[k] = x at *
      have h1 := hck.raw
      have h2 := hck.de
      have h3 := hck.raw2
      have h4 := hck.gross
      have h5 := hck.taxes
      have Hsg := Lib.hid hsg
      have Hst := Lib.hid hst
      clear hsg hst
      generalize isum ((wk.ctys.take k).map Cty.gross) = sg at *
      generalize isum ((wk.ctys.take k).map Cty.taxes) = st at *
      have hsgb : 0 ≤ sg ∧ sg ≤ 8000000000000000 := by omega
      have hstb : 0 ≤ st ∧ st ≤ 8000000000000000 := by omega
      clear hgb htb hl8
      have CP := Lib.hid (fun W => parts_any x.gross x.tax W h4 hck.tx)
      go_upto_region 8 with fail
      have hU := Blk.new wr 133 [.int .i64 x.takings, .int .i64 x.num, .int .i64 x.den, .int .i64 x.tax]
      have hZ' := hZ.alloc (.cells #[.int .i64 x.takings, .int .i64 x.num, .int .i64 x.den, .int .i64 x.tax] 133)
      have hov' := hov.alloc (.cells #[.int .i64 x.takings, .int .i64 x.num, .int .i64 x.den, .int .i64 x.tax] 133)
      have hou' := hou.alloc (.cells #[.int .i64 x.takings, .int .i64 x.num, .int .i64 x.den, .int .i64 x.tax] 133)
      have hb' := hb.then_below ((ext_alloc wr (.cells #[.int .i64 x.takings, .int .i64 x.num, .int .i64 x.den, .int .i64 x.tax] 133)).mono hb.size)
      change Blk (wr.alloc (.cells #[.int .i64 x.takings, .int .i64 x.num, .int .i64 x.den, .int .i64 x.tax] 133)) _ _ _ at hU
      generalize wr.alloc (.cells #[.int .i64 x.takings, .int .i64 x.num, .int .i64 x.den, .int .i64 x.tax] 133) = W3 at *
      have Hl1 := Lib.hid (show (wk.ctys.take k).map Cty.gross ++ [x.gross] = (wk.ctys.take (k + 1)).map Cty.gross by rw [Ht.out, List.map_append]; rfl)
      have Hl2 := Lib.hid (show (wk.ctys.take k).map Cty.taxes ++ [x.taxes] = (wk.ctys.take (k + 1)).map Cty.taxes by rw [Ht.out, List.map_append]; rfl)
      rw [show x.takings * x.num / x.den = x.gross from rfl]
      have y3 : W3.cell? ⟨wr.heap.size, 3, none⟩ = _ := hU.cell rfl
      go_wp2_with fail
      refine (CP.out _).mono ?_; rintro e w2 ⟨rfl, rfl⟩
      rw [show (x.gross * x.tax + 999) / 1000 = x.taxes from rfl]
      clear y3
      go_upto_region 9 with fail
      generalize hgv : v.ownBlock.getD w2.heap.size = gv
      generalize hgu : u.ownBlock.getD w2.heap.size = gu
      have n1 : B4 ≠ gv := getD_own hov' (by omega) hb'.size hgv.symm
      have n2 : B4 ≠ gu := getD_own hou' (by omega) hb'.size hgu.symm
      have two0 := Two.of hov' hou' Hne.out
      rw [hgv, hgu] at two0
      refine Dr.wp_region_plan 11 [gv, gu] (.q [0, 1, 2, 5, 6, 7] (.e2 3 (.e2 4 (.q [10] (.e1 8 (.e1 9 .done))) 8 (.e1 4 (.q [10] (.e1 9 .done)))) 8 (.e1 3 (.e1 4 (.q [10] (.e1 9 .done)))))) (by kernel_rfl) (by kernel_rfl) ?_
      have two := two0.ext (ext_drew w2)
      have hZ := hZ'.drew
      have hb := hb'.then_below ((ext_drew w2).mono hb'.size)
      clear two0 hZ' hb' hU hov hou hov' hou' hgv hgu c0 c1 c2 c3 hXr x0
      generalize w2.drew = W at *
      have q0 := Dr.cls_cell (M := [gv, gu]) (hZ.cell (i := 0) rfl) (by simp; omega)
      have q1 := Dr.cls_cell (M := [gv, gu]) (hZ.cell (i := 1) rfl) (by simp; omega)
      refine Dr.plan_q (l := [_, _, _, _, _, _]) rfl (fun K hK => ?_)
      iterate 6 (go_big_quiet_step (fail))
      refine wpQuiet_nil (hK _ ?_); clear hK K
      clear q0 q1
      refine Dr.plan_e2 ?_ ?_
      · refine Dr.plan_e rfl (by rfl) (fun K hK => ?_)
        go_wp2_with fail
        refine hK _ _ (.of (ext_alloc _ _)) ?_; clear hK K
        have nw1 := Blk.new W 3 [.int .i64 x.gross]
        have two1 := two.alloc (.cells #[.int .i64 x.gross] 3)
        have hZ1 := hZ.alloc (.cells #[.int .i64 x.gross] 3)
        have hb1 := hb.then_below ((ext_alloc W (.cells #[.int .i64 x.gross] 3)).mono hb.size)
        have nv1 : ∀ k, Value.ownBlock _ = some k → k ≠ W.heap.size := fun k hk => by have := (two.ov.lt hk).2; omega
        change Blk (W.alloc (.cells #[.int .i64 x.gross] 3)) _ _ _ at nw1
        generalize W.alloc (.cells #[.int .i64 x.gross] 3) = X1 at *
        generalize W.heap.size = N1 at *
        refine Dr.plan_e2 ?_ ?_
        · refine Dr.plan_e rfl (by rfl) (fun K hK => ?_)
          refine wp_app1 encI 27 3 1 8 et27 (by decide) (by decide) encI_len encI_one _ _ rfl W2.heap.size _ ((wk.ctys.take k).map Cty.gross) rfl two1.ov N1 rfl x.gross (encI_cell (nw1.cell rfl)) (by simp; omega) hb1.size ?_
          intro g2 c2 X2 ho2 hbl2 hgr2 hat2
          refine hK _ _ (bel_grown hgr2 two1.hv (by simp)) ?_; clear hK K
          go_frame
          have two2 := two1.app ho2 hgr2 hat2
          have hZ2 := hZ1.under hbl2 (by omega)
          have hb2 := hb1.then_below hbl2
          refine Dr.plan_q (l := [_]) rfl (fun K hK => ?_)
          iterate 1 (go_big_quiet_step (fail))
          refine wpQuiet_nil (hK _ ?_); clear hK K
          refine Dr.plan_e rfl (by rfl) (fun K hK => ?_)
          go_wp2_with fail
          refine hK _ _ (.of (ext_alloc _ _)) ?_; clear hK K
          have nw4 := Blk.new X2 3 [.int .i64 x.taxes]
          have two4 := two2.alloc (.cells #[.int .i64 x.taxes] 3)
          have hZ4 := hZ2.alloc (.cells #[.int .i64 x.taxes] 3)
          have hb4 := hb2.then_below ((ext_alloc X2 (.cells #[.int .i64 x.taxes] 3)).mono hb2.size)
          have nv4 : ∀ k, Value.ownBlock _ = some k → k ≠ X2.heap.size := fun k hk => by have := (two2.ov.lt hk).2; omega
          change Blk (X2.alloc (.cells #[.int .i64 x.taxes] 3)) _ _ _ at nw4
          generalize X2.alloc (.cells #[.int .i64 x.taxes] 3) = X4 at *
          generalize X2.heap.size = N4 at *
          refine Dr.plan_e rfl (by rfl) (fun K hK => ?_)
          refine wp_app1 encI 27 3 1 8 et27 (by decide) (by decide) encI_len encI_one _ _ rfl W2.heap.size _ ((wk.ctys.take k).map Cty.taxes) rfl two4.ou N4 rfl x.taxes (encI_cell (nw4.cell rfl)) (by simp; omega) hb4.size ?_
          intro g5 c5 X5 ho5 hbl5 hgr5 hat5
          refine hK _ _ (bel_grown hgr5 two4.hu (by simp)) ?_; clear hK K
          go_frame
          have two5 := (two4.swap.app ho5 hgr5 hat5).swap
          have hZ5 := hZ4.under hbl5 (by omega)
          have hb5 := hb4.then_below hbl5
          refine Dr.plan_done (tl := [_, _, _]) rfl ?_
          have f0 := hZ5.free 0
          have f1 := hZ5.free 1
          have z0 : X5.cell? ⟨B4, 0, none⟩ = _ := hZ5.cell rfl
          have z1 : X5.cell? ⟨B4, 1, none⟩ = _ := hZ5.cell rfl
          go_wp2
          go_roundw
          case rel => exact ⟨k + 1, _, _, by go_num, by rw [Hsg.out, Hst.out]; exact int_congr (by omega), by omega, by rw [← Hl1.out]; exact (two5.ov.setCell (p := ⟨B4, 0, none⟩) (by simp; omega) _).setCell (p := ⟨B4, 1, none⟩) (by simp; omega) _, by rw [← Hl2.out]; exact (two5.ou.setCell (p := ⟨B4, 0, none⟩) (by simp; omega) _).setCell (p := ⟨B4, 1, none⟩) (by simp; omega) _, Lib.hid two5.ne, by simpa using (hZ5.set 0 _).set 1 _, (hb5.put (by simp) _).put (by simp) _⟩
          case measure => simp [intOf]; omega
        · refine Dr.plan_e rfl (by rfl) (fun K hK => ?_)
          go_wp2_with fail
          refine hK _ _ (.of (ext_alloc _ _)) ?_; clear hK K
          have nw2 := Blk.new X1 3 [.int .i64 x.taxes]
          have two2 := two1.alloc (.cells #[.int .i64 x.taxes] 3)
          have hZ2 := hZ1.alloc (.cells #[.int .i64 x.taxes] 3)
          have hb2 := hb1.then_below ((ext_alloc X1 (.cells #[.int .i64 x.taxes] 3)).mono hb1.size)
          have nv2 : ∀ k, Value.ownBlock _ = some k → k ≠ X1.heap.size := fun k hk => by have := (two1.ov.lt hk).2; omega
          change Blk (X1.alloc (.cells #[.int .i64 x.taxes] 3)) _ _ _ at nw2
          have nw21 := nw1.alloc (.cells #[.int .i64 x.taxes] 3)
          generalize X1.alloc (.cells #[.int .i64 x.taxes] 3) = X2 at *
          generalize X1.heap.size = N2 at *
          refine Dr.plan_e rfl (by rfl) (fun K hK => ?_)
          refine wp_app1 encI 27 3 1 8 et27 (by decide) (by decide) encI_len encI_one _ _ rfl W2.heap.size _ ((wk.ctys.take k).map Cty.gross) rfl two2.ov N1 rfl x.gross (encI_cell (nw21.cell rfl)) (by simp; omega) hb2.size ?_
          intro g3 c3 X3 ho3 hbl3 hgr3 hat3
          refine hK _ _ (bel_grown hgr3 two2.hv (by simp)) ?_; clear hK K
          go_frame
          have two3 := two2.app ho3 hgr3 hat3
          have hZ3 := hZ2.under hbl3 (by omega)
          have hb3 := hb2.then_below hbl3
          have nw32 : Blk X3 _ _ _ := (hgr3.block _ nw2.lt (fun e => nv2 _ e.symm rfl)).trans nw2
          refine Dr.plan_q (l := [_]) rfl (fun K hK => ?_)
          iterate 1 (go_big_quiet_step (fail))
          refine wpQuiet_nil (hK _ ?_); clear hK K
          refine Dr.plan_e rfl (by rfl) (fun K hK => ?_)
          refine wp_app1 encI 27 3 1 8 et27 (by decide) (by decide) encI_len encI_one _ _ rfl W2.heap.size _ ((wk.ctys.take k).map Cty.taxes) rfl two3.ou N2 rfl x.taxes (encI_cell (nw32.cell rfl)) (by simp; omega) hb3.size ?_
          intro g5 c5 X5 ho5 hbl5 hgr5 hat5
          refine hK _ _ (bel_grown hgr5 two3.hu (by simp)) ?_; clear hK K
          go_frame
          have two5 := (two3.swap.app ho5 hgr5 hat5).swap
          have hZ5 := hZ3.under hbl5 (by omega)
          have hb5 := hb3.then_below hbl5
          refine Dr.plan_done (tl := [_, _, _]) rfl ?_
          have f0 := hZ5.free 0
          have f1 := hZ5.free 1
          have z0 : X5.cell? ⟨B4, 0, none⟩ = _ := hZ5.cell rfl
          have z1 : X5.cell? ⟨B4, 1, none⟩ = _ := hZ5.cell rfl
          go_wp2
          go_roundw
          case rel => exact ⟨k + 1, _, _, by go_num, by rw [Hsg.out, Hst.out]; exact int_congr (by omega), by omega, by rw [← Hl1.out]; exact (two5.ov.setCell (p := ⟨B4, 0, none⟩) (by simp; omega) _).setCell (p := ⟨B4, 1, none⟩) (by simp; omega) _, by rw [← Hl2.out]; exact (two5.ou.setCell (p := ⟨B4, 0, none⟩) (by simp; omega) _).setCell (p := ⟨B4, 1, none⟩) (by simp; omega) _, Lib.hid two5.ne, by simpa using (hZ5.set 0 _).set 1 _, (hb5.put (by simp) _).put (by simp) _⟩
          case measure => simp [intOf]; omega
      · refine Dr.plan_e rfl (by rfl) (fun K hK => ?_)
        go_wp2_with fail
        refine hK _ _ (.of (ext_alloc _ _)) ?_; clear hK K
        have nw1 := Blk.new W 3 [.int .i64 x.taxes]
        have two1 := two.alloc (.cells #[.int .i64 x.taxes] 3)
        have hZ1 := hZ.alloc (.cells #[.int .i64 x.taxes] 3)
        have hb1 := hb.then_below ((ext_alloc W (.cells #[.int .i64 x.taxes] 3)).mono hb.size)
        have nv1 : ∀ k, Value.ownBlock _ = some k → k ≠ W.heap.size := fun k hk => by have := (two.ov.lt hk).2; omega
        change Blk (W.alloc (.cells #[.int .i64 x.taxes] 3)) _ _ _ at nw1
        generalize W.alloc (.cells #[.int .i64 x.taxes] 3) = X1 at *
        generalize W.heap.size = N1 at *
        refine Dr.plan_e rfl (by rfl) (fun K hK => ?_)
        go_wp2_with fail
        refine hK _ _ (.of (ext_alloc _ _)) ?_; clear hK K
        have nw2 := Blk.new X1 3 [.int .i64 x.gross]
        have two2 := two1.alloc (.cells #[.int .i64 x.gross] 3)
        have hZ2 := hZ1.alloc (.cells #[.int .i64 x.gross] 3)
        have hb2 := hb1.then_below ((ext_alloc X1 (.cells #[.int .i64 x.gross] 3)).mono hb1.size)
        have nv2 : ∀ k, Value.ownBlock _ = some k → k ≠ X1.heap.size := fun k hk => by have := (two1.ov.lt hk).2; omega
        change Blk (X1.alloc (.cells #[.int .i64 x.gross] 3)) _ _ _ at nw2
        have nw21 := nw1.alloc (.cells #[.int .i64 x.gross] 3)
        generalize X1.alloc (.cells #[.int .i64 x.gross] 3) = X2 at *
        generalize X1.heap.size = N2 at *
        refine Dr.plan_e rfl (by rfl) (fun K hK => ?_)
        refine wp_app1 encI 27 3 1 8 et27 (by decide) (by decide) encI_len encI_one _ _ rfl W2.heap.size _ ((wk.ctys.take k).map Cty.gross) rfl two2.ov N2 rfl x.gross (encI_cell (nw2.cell rfl)) (by simp; omega) hb2.size ?_
        intro g3 c3 X3 ho3 hbl3 hgr3 hat3
        refine hK _ _ (bel_grown hgr3 two2.hv (by simp)) ?_; clear hK K
        go_frame
        have two3 := two2.app ho3 hgr3 hat3
        have hZ3 := hZ2.under hbl3 (by omega)
        have hb3 := hb2.then_below hbl3
        have nw31 : Blk X3 _ _ _ := (hgr3.block _ nw21.lt (fun e => nv1 _ e.symm rfl)).trans nw21
        refine Dr.plan_q (l := [_]) rfl (fun K hK => ?_)
        iterate 1 (go_big_quiet_step (fail))
        refine wpQuiet_nil (hK _ ?_); clear hK K
        refine Dr.plan_e rfl (by rfl) (fun K hK => ?_)
        refine wp_app1 encI 27 3 1 8 et27 (by decide) (by decide) encI_len encI_one _ _ rfl W2.heap.size _ ((wk.ctys.take k).map Cty.taxes) rfl two3.ou N1 rfl x.taxes (encI_cell (nw31.cell rfl)) (by simp; omega) hb3.size ?_
        intro g5 c5 X5 ho5 hbl5 hgr5 hat5
        refine hK _ _ (bel_grown hgr5 two3.hu (by simp)) ?_; clear hK K
        go_frame
        have two5 := (two3.swap.app ho5 hgr5 hat5).swap
        have hZ5 := hZ3.under hbl5 (by omega)
        have hb5 := hb3.then_below hbl5
        refine Dr.plan_done (tl := [_, _, _]) rfl ?_
        have f0 := hZ5.free 0
        have f1 := hZ5.free 1
        have z0 : X5.cell? ⟨B4, 0, none⟩ = _ := hZ5.cell rfl
        have z1 : X5.cell? ⟨B4, 1, none⟩ = _ := hZ5.cell rfl
        go_wp2
        go_roundw
        case rel => exact ⟨k + 1, _, _, by go_num, by rw [Hsg.out, Hst.out]; exact int_congr (by omega), by omega, by rw [← Hl1.out]; exact (two5.ov.setCell (p := ⟨B4, 0, none⟩) (by simp; omega) _).setCell (p := ⟨B4, 1, none⟩) (by simp; omega) _, by rw [← Hl2.out]; exact (two5.ou.setCell (p := ⟨B4, 0, none⟩) (by simp; omega) _).setCell (p := ⟨B4, 1, none⟩) (by simp; omega) _, Lib.hid two5.ne, by simpa using (hZ5.set 0 _).set 1 _, (hb5.put (by simp) _).put (by simp) _⟩
        case measure => simp [intOf]; omega
    · obtain rfl : k = n := by omega
      rw [List.take_of_length_le (by rw [Hn.out]; omega)] at hov hou ⊢
      have hsum := Hk.out.sums
      have hpot := Hk.out.pot
      rw [show isum (wk.ctys.map Cty.gross) - isum (wk.ctys.map Cty.taxes) = wk.pot from rfl]
      have hx1 : wr.cell? ⟨w.heap.size, 1, none⟩ = _ := hXr.cell rfl
      have z2 : wr.cell? ⟨B4, 2, none⟩ = _ := hZ.cell rfl
      have z3 : wr.cell? ⟨B4, 3, none⟩ = _ := hZ.cell rfl
      have f2 := hZ.free 2
      have f3 := hZ.free 3
      have hne1 : w.heap.size ≠ B4 := by omega
      have hne2 : B4 ≠ w.heap.size := by omega
      have hpm : wk.prem = min wk.pot prem := by rw [← Hprem.out]; rfl
      generalize hpp : wk.pot = pot at *
      have hpb : 0 ≤ wk.prem ∧ wk.prem ≤ pot ∧ wk.prem ≤ prem := by omega
      go_upto_region 12 with fail
      rw [show (if prem < pot then prem else pot) = wk.prem by rw [hpm]; split <;> omega]
      generalize hppm : wk.prem = pm at *
      clear hpm
      go_upto_region 14 with fail
      obtain ⟨v1, v2, hv1, hv2, hv3, hv4⟩ := hov.cells encI_len
      obtain ⟨u1, u2, hu1, hu2, hu3, hu4⟩ := hou.cells encI_len
      have hfv : FreshL W2 wr 1 encI v (wk.ctys.map Cty.gross) := FreshL.of_own hov encI_len (Nat.le_refl _)
      have hfu : FreshL W2 wr 1 encI u (wk.ctys.map Cty.taxes) := FreshL.of_own hou encI_len (Nat.le_refl _)
      have hZ8 := (hZ.set 2 (.int .i64 pm)).set 3 (.int .i64 (prem - pm))
      have hb8 := (hb.put (p := ⟨B4, 2, none⟩) (by simp) (.int .i64 pm)).put (p := ⟨B4, 3, none⟩) (by simp) (.int .i64 (prem - pm))
      have hb81 := ((Dr.Bel.refl [B4] wr).put (p := ⟨B4, 2, none⟩) (by simp) (.int .i64 pm)).put (p := ⟨B4, 3, none⟩) (by simp) (.int .i64 (prem - pm))
      have hv8 := cells_bel hv4 hb81 (fun q hq => by have := hov.block_ge hv1 q hq; simp; omega)
      have hu8 := cells_bel hu4 hb81 (fun q hq => by have := hou.block_ge hu1 q hq; simp; omega)
      have hgv := hov.block_ge hv1
      have hgu := hou.block_ge hu1
      simp only [List.set] at hZ8
      rw [show (wk.ctys.map Cty.gross).length = k by simpa using Hn.out] at hv1
      rw [show (wk.ctys.map Cty.taxes).length = k by simpa using Hn.out] at hu1
      subst hv1 hu1
      have hs8 := hb.size
      have hs81 := hb81.size
      clear hx1 z2 z3 f2 f3 x0 hXr hZ hb hov hou Hne hA2 hfv hfu hv4 hu4 hb81
      generalize (wr.setCell ⟨B4, 2, none⟩ (.int .i64 pm)).setCell ⟨B4, 3, none⟩ (.int .i64 (prem - pm)) = W5 at *
      have hX8 := hb8.blk hX2 (by simp; omega)
      have hmk := fun w => mk27n m (by omega) w
      go_cut [] (fun W' => ∃ g1 g2 g3, Blk W' B4 40 [.slice v1 k v2, .slice u1 k u2, .int .i64 pm, .int .i64 (prem - pm), .slice (some ⟨g1, 0, none⟩) m m, .slice (some ⟨g2, 0, none⟩) m m, .slice (some ⟨g3, 0, none⟩) m m, .int .i64 0] ∧
        (W5.heap.size ≤ g1 ∧ IArr W' g1 3 (tab m fun _ => 0)) ∧ (W5.heap.size ≤ g2 ∧ IArr W' g2 3 (tab m fun _ => 0)) ∧ (W5.heap.size ≤ g3 ∧ IArr W' g3 3 (tab m fun _ => 0)) ∧ g1 ≠ g2 ∧ g1 ≠ g3 ∧ g2 ≠ g3 ∧ Dr.Bel [B4] W5 W')
      case first =>
        refine Dr.wp_region_plan 17 [B4] (.q [0, 1, 2, 4, 5, 6, 8, 9, 10] (.e3 3 (.q [12] (.e3 7 (.e2 11 (.e1 13 (.q [14] (.e1 15 (.q [16] .done)))) 13 (.q [14] (.e2 11 (.e1 15 (.q [16] .done)) 15 (.e1 11 (.q [16] .done))))) 11 (.e2 7 (.e1 13 (.q [14] (.e1 15 (.q [16] .done)))) 13 (.e1 7 (.q [14] (.e1 15 (.q [16] .done))))) 13 (.e2 7 (.q [14] (.e2 11 (.e1 15 (.q [16] .done)) 15 (.e1 11 (.q [16] .done)))) 11 (.e1 7 (.q [14] (.e1 15 (.q [16] .done))))))) 7 (.e2 3 (.q [12] (.e2 11 (.e1 13 (.q [14] (.e1 15 (.q [16] .done)))) 13 (.q [14] (.e2 11 (.e1 15 (.q [16] .done)) 15 (.e1 11 (.q [16] .done)))))) 11 (.e1 3 (.q [12] (.e1 13 (.q [14] (.e1 15 (.q [16] .done))))))) 11 (.e2 3 (.q [12] (.e2 7 (.e1 13 (.q [14] (.e1 15 (.q [16] .done)))) 13 (.e1 7 (.q [14] (.e1 15 (.q [16] .done)))))) 7 (.e1 3 (.q [12] (.e1 13 (.q [14] (.e1 15 (.q [16] .done))))))))) (by kernel_rfl) (by kernel_rfl) ?_
        have hZ := hZ8.drew
        have hb : Dr.Bel [B4] W5 W5.drew := .of (ext_drew W5)
        have zs := Zs.nil W5 W5.drew m 3
        have hXd := hX8.drew
        clear hZ8 hb8 hX8
        generalize W5.drew = W at *
        have q0 := Dr.cls_cell (M := [B4]) (hXd.cell (i := 2) rfl) (by simp; omega)
        refine Dr.plan_q (l := [_, _, _, _, _, _, _, _, _]) rfl (fun K hK => ?_)
        iterate 9 (go_big_quiet_step (fail))
        refine wpQuiet_nil (hK _ ?_); clear hK K
        clear q0
        refine Dr.plan_e3 ?_ ?_ ?_
        · refine Dr.plan_e rfl (by rfl) (fun K hK => ?_)
          go_wp2_with fail
          refine hK _ _ (.of (ext_alloc _ _)) ?_; clear hK K
          have zs1 := zs.mk1 hb.size
          have hZ1 := hZ.alloc (.cells ((tab m fun _ => 0).map (Value.int .i64)).toArray 3)
          have hb1 := hb.then_below ((ext_alloc W (.cells ((tab m fun _ => 0).map (Value.int .i64)).toArray 3)).mono hb.size)
          generalize W.alloc (.cells ((tab m fun _ => 0).map (Value.int .i64)).toArray 3) = X1 at *
          generalize W.heap.size = N1 at *
          refine Dr.plan_q (l := [_]) rfl (fun K hK => ?_)
          iterate 1 (go_big_quiet_step (fail))
          refine wpQuiet_nil (hK _ ?_); clear hK K
          refine Dr.plan_e3 ?_ ?_ ?_
          · refine Dr.plan_e rfl (by rfl) (fun K hK => ?_)
            go_wp2_with fail
            refine hK _ _ (.of (ext_alloc _ _)) ?_; clear hK K
            have zs2 := zs1.mk1 hb1.size
            have hZ2 := hZ1.alloc (.cells ((tab m fun _ => 0).map (Value.int .i64)).toArray 3)
            have hb2 := hb1.then_below ((ext_alloc X1 (.cells ((tab m fun _ => 0).map (Value.int .i64)).toArray 3)).mono hb1.size)
            generalize X1.alloc (.cells ((tab m fun _ => 0).map (Value.int .i64)).toArray 3) = X2 at *
            generalize X1.heap.size = N2 at *
            refine Dr.plan_e2 ?_ ?_
            · refine Dr.plan_e rfl (by rfl) (fun K hK => ?_)
              go_wp2_with fail
              refine hK _ _ (.of (ext_alloc _ _)) ?_; clear hK K
              have zs3 := zs2.mk1 hb2.size
              have hZ3 := hZ2.alloc (.cells ((tab m fun _ => 0).map (Value.int .i64)).toArray 3)
              have hb3 := hb2.then_below ((ext_alloc X2 (.cells ((tab m fun _ => 0).map (Value.int .i64)).toArray 3)).mono hb2.size)
              generalize X2.alloc (.cells ((tab m fun _ => 0).map (Value.int .i64)).toArray 3) = X3 at *
              generalize X2.heap.size = N3 at *
              refine Dr.plan_e rfl (by rfl) (fun K hK => ?_)
              have f4 := hZ3.free 4
              have z4 : X3.cell? ⟨B4, 4, none⟩ = _ := hZ3.cell rfl
              go_wp2_with fail
              refine hK _ _ (Dr.Bel.store (by simp) _) ?_; clear hK K
              have zs4 := zs3.put (p := ⟨B4, 4, none⟩) (by simp; omega) (.slice (some ⟨N1, 0, none⟩) m m)
              have hZ4 := hZ3.set 4 (.slice (some ⟨N1, 0, none⟩) m m)
              have hb4 := hb3.put (p := ⟨B4, 4, none⟩) (by simp) (.slice (some ⟨N1, 0, none⟩) m m)
              generalize X3.setCell ⟨B4, 4, none⟩ (.slice (some ⟨N1, 0, none⟩) m m) = X4 at *
              clear f4 z4
              refine Dr.plan_q (l := [_]) rfl (fun K hK => ?_)
              iterate 1 (go_big_quiet_step (fail))
              refine wpQuiet_nil (hK _ ?_); clear hK K
              refine Dr.plan_e rfl (by rfl) (fun K hK => ?_)
              have f5 := hZ4.free 5
              have z5 : X4.cell? ⟨B4, 5, none⟩ = _ := hZ4.cell rfl
              go_wp2_with fail
              refine hK _ _ (Dr.Bel.store (by simp) _) ?_; clear hK K
              have zs5 := zs4.put (p := ⟨B4, 5, none⟩) (by simp; omega) (.slice (some ⟨N2, 0, none⟩) m m)
              have hZ5 := hZ4.set 5 (.slice (some ⟨N2, 0, none⟩) m m)
              have hb5 := hb4.put (p := ⟨B4, 5, none⟩) (by simp) (.slice (some ⟨N2, 0, none⟩) m m)
              generalize X4.setCell ⟨B4, 5, none⟩ (.slice (some ⟨N2, 0, none⟩) m m) = X5 at *
              clear f5 z5
              refine Dr.plan_q (l := [_]) rfl (fun K hK => ?_)
              iterate 1 (go_big_quiet_step (fail))
              refine wpQuiet_nil (hK _ ?_); clear hK K
              refine Dr.plan_done (tl := [_]) rfl ?_
              have f := hZ5.free 6
              have z : X5.cell? ⟨B4, 6, none⟩ = _ := hZ5.cell rfl
              go_wp2
              have zs9 := zs5.put (p := ⟨B4, 6, none⟩) (by simp; omega) (.slice (some ⟨N3, 0, none⟩) m m)
              have hb9 := hb5.put (p := ⟨B4, 6, none⟩) (by simp) (.slice (some ⟨N3, 0, none⟩) m m)
              have hZ9 := hZ5.set 6 (.slice (some ⟨N3, 0, none⟩) m m)
              have nd := zs9.nd
              simp at nd
              go_meet
              case rel => exact ⟨N1, N2, N3, by simpa using hZ9, zs9.at_ _ (by simp), zs9.at_ _ (by simp), zs9.at_ _ (by simp), by omega, by omega, by omega, hb9⟩
            · refine Dr.plan_e rfl (by rfl) (fun K hK => ?_)
              have f6 := hZ2.free 4
              have z6 : X2.cell? ⟨B4, 4, none⟩ = _ := hZ2.cell rfl
              go_wp2_with fail
              refine hK _ _ (Dr.Bel.store (by simp) _) ?_; clear hK K
              have zs6 := zs2.put (p := ⟨B4, 4, none⟩) (by simp; omega) (.slice (some ⟨N1, 0, none⟩) m m)
              have hZ6 := hZ2.set 4 (.slice (some ⟨N1, 0, none⟩) m m)
              have hb6 := hb2.put (p := ⟨B4, 4, none⟩) (by simp) (.slice (some ⟨N1, 0, none⟩) m m)
              generalize X2.setCell ⟨B4, 4, none⟩ (.slice (some ⟨N1, 0, none⟩) m m) = X6 at *
              clear f6 z6
              refine Dr.plan_q (l := [_]) rfl (fun K hK => ?_)
              iterate 1 (go_big_quiet_step (fail))
              refine wpQuiet_nil (hK _ ?_); clear hK K
              refine Dr.plan_e2 ?_ ?_
              · refine Dr.plan_e rfl (by rfl) (fun K hK => ?_)
                go_wp2_with fail
                refine hK _ _ (.of (ext_alloc _ _)) ?_; clear hK K
                have zs7 := zs6.mk1 hb6.size
                have hZ7 := hZ6.alloc (.cells ((tab m fun _ => 0).map (Value.int .i64)).toArray 3)
                have hb7 := hb6.then_below ((ext_alloc X6 (.cells ((tab m fun _ => 0).map (Value.int .i64)).toArray 3)).mono hb6.size)
                generalize X6.alloc (.cells ((tab m fun _ => 0).map (Value.int .i64)).toArray 3) = X7 at *
                generalize X6.heap.size = N7 at *
                refine Dr.plan_e rfl (by rfl) (fun K hK => ?_)
                have f8 := hZ7.free 5
                have z8 : X7.cell? ⟨B4, 5, none⟩ = _ := hZ7.cell rfl
                go_wp2_with fail
                refine hK _ _ (Dr.Bel.store (by simp) _) ?_; clear hK K
                have zs8 := zs7.put (p := ⟨B4, 5, none⟩) (by simp; omega) (.slice (some ⟨N2, 0, none⟩) m m)
                have hZ8 := hZ7.set 5 (.slice (some ⟨N2, 0, none⟩) m m)
                have hb8 := hb7.put (p := ⟨B4, 5, none⟩) (by simp) (.slice (some ⟨N2, 0, none⟩) m m)
                generalize X7.setCell ⟨B4, 5, none⟩ (.slice (some ⟨N2, 0, none⟩) m m) = X8 at *
                clear f8 z8
                refine Dr.plan_q (l := [_]) rfl (fun K hK => ?_)
                iterate 1 (go_big_quiet_step (fail))
                refine wpQuiet_nil (hK _ ?_); clear hK K
                refine Dr.plan_done (tl := [_]) rfl ?_
                have f := hZ8.free 6
                have z : X8.cell? ⟨B4, 6, none⟩ = _ := hZ8.cell rfl
                go_wp2
                have zs9 := zs8.put (p := ⟨B4, 6, none⟩) (by simp; omega) (.slice (some ⟨N7, 0, none⟩) m m)
                have hb9 := hb8.put (p := ⟨B4, 6, none⟩) (by simp) (.slice (some ⟨N7, 0, none⟩) m m)
                have hZ9 := hZ8.set 6 (.slice (some ⟨N7, 0, none⟩) m m)
                have nd := zs9.nd
                simp at nd
                go_meet
                case rel => exact ⟨N1, N2, N7, by simpa using hZ9, zs9.at_ _ (by simp), zs9.at_ _ (by simp), zs9.at_ _ (by simp), by omega, by omega, by omega, hb9⟩
              · refine Dr.plan_e rfl (by rfl) (fun K hK => ?_)
                have f9 := hZ6.free 5
                have z9 : X6.cell? ⟨B4, 5, none⟩ = _ := hZ6.cell rfl
                go_wp2_with fail
                refine hK _ _ (Dr.Bel.store (by simp) _) ?_; clear hK K
                have zs9 := zs6.put (p := ⟨B4, 5, none⟩) (by simp; omega) (.slice (some ⟨N2, 0, none⟩) m m)
                have hZ9 := hZ6.set 5 (.slice (some ⟨N2, 0, none⟩) m m)
                have hb9 := hb6.put (p := ⟨B4, 5, none⟩) (by simp) (.slice (some ⟨N2, 0, none⟩) m m)
                generalize X6.setCell ⟨B4, 5, none⟩ (.slice (some ⟨N2, 0, none⟩) m m) = X9 at *
                clear f9 z9
                refine Dr.plan_e rfl (by rfl) (fun K hK => ?_)
                go_wp2_with fail
                refine hK _ _ (.of (ext_alloc _ _)) ?_; clear hK K
                have zs10 := zs9.mk1 hb9.size
                have hZ10 := hZ9.alloc (.cells ((tab m fun _ => 0).map (Value.int .i64)).toArray 3)
                have hb10 := hb9.then_below ((ext_alloc X9 (.cells ((tab m fun _ => 0).map (Value.int .i64)).toArray 3)).mono hb9.size)
                generalize X9.alloc (.cells ((tab m fun _ => 0).map (Value.int .i64)).toArray 3) = X10 at *
                generalize X9.heap.size = N10 at *
                refine Dr.plan_q (l := [_]) rfl (fun K hK => ?_)
                iterate 1 (go_big_quiet_step (fail))
                refine wpQuiet_nil (hK _ ?_); clear hK K
                refine Dr.plan_done (tl := [_]) rfl ?_
                have f := hZ10.free 6
                have z : X10.cell? ⟨B4, 6, none⟩ = _ := hZ10.cell rfl
                go_wp2
                have zs9 := zs10.put (p := ⟨B4, 6, none⟩) (by simp; omega) (.slice (some ⟨N10, 0, none⟩) m m)
                have hb9 := hb10.put (p := ⟨B4, 6, none⟩) (by simp) (.slice (some ⟨N10, 0, none⟩) m m)
                have hZ9 := hZ10.set 6 (.slice (some ⟨N10, 0, none⟩) m m)
                have nd := zs9.nd
                simp at nd
                go_meet
                case rel => exact ⟨N1, N2, N10, by simpa using hZ9, zs9.at_ _ (by simp), zs9.at_ _ (by simp), zs9.at_ _ (by simp), by omega, by omega, by omega, hb9⟩
          · refine Dr.plan_e rfl (by rfl) (fun K hK => ?_)
            go_wp2_with fail
            refine hK _ _ (.of (ext_alloc _ _)) ?_; clear hK K
            have zs11 := zs1.mk1 hb1.size
            have hZ11 := hZ1.alloc (.cells ((tab m fun _ => 0).map (Value.int .i64)).toArray 3)
            have hb11 := hb1.then_below ((ext_alloc X1 (.cells ((tab m fun _ => 0).map (Value.int .i64)).toArray 3)).mono hb1.size)
            generalize X1.alloc (.cells ((tab m fun _ => 0).map (Value.int .i64)).toArray 3) = X11 at *
            generalize X1.heap.size = N11 at *
            refine Dr.plan_e2 ?_ ?_
            · refine Dr.plan_e rfl (by rfl) (fun K hK => ?_)
              go_wp2_with fail
              refine hK _ _ (.of (ext_alloc _ _)) ?_; clear hK K
              have zs12 := zs11.mk1 hb11.size
              have hZ12 := hZ11.alloc (.cells ((tab m fun _ => 0).map (Value.int .i64)).toArray 3)
              have hb12 := hb11.then_below ((ext_alloc X11 (.cells ((tab m fun _ => 0).map (Value.int .i64)).toArray 3)).mono hb11.size)
              generalize X11.alloc (.cells ((tab m fun _ => 0).map (Value.int .i64)).toArray 3) = X12 at *
              generalize X11.heap.size = N12 at *
              refine Dr.plan_e rfl (by rfl) (fun K hK => ?_)
              have f13 := hZ12.free 4
              have z13 : X12.cell? ⟨B4, 4, none⟩ = _ := hZ12.cell rfl
              go_wp2_with fail
              refine hK _ _ (Dr.Bel.store (by simp) _) ?_; clear hK K
              have zs13 := zs12.put (p := ⟨B4, 4, none⟩) (by simp; omega) (.slice (some ⟨N1, 0, none⟩) m m)
              have hZ13 := hZ12.set 4 (.slice (some ⟨N1, 0, none⟩) m m)
              have hb13 := hb12.put (p := ⟨B4, 4, none⟩) (by simp) (.slice (some ⟨N1, 0, none⟩) m m)
              generalize X12.setCell ⟨B4, 4, none⟩ (.slice (some ⟨N1, 0, none⟩) m m) = X13 at *
              clear f13 z13
              refine Dr.plan_q (l := [_]) rfl (fun K hK => ?_)
              iterate 1 (go_big_quiet_step (fail))
              refine wpQuiet_nil (hK _ ?_); clear hK K
              refine Dr.plan_e rfl (by rfl) (fun K hK => ?_)
              have f14 := hZ13.free 5
              have z14 : X13.cell? ⟨B4, 5, none⟩ = _ := hZ13.cell rfl
              go_wp2_with fail
              refine hK _ _ (Dr.Bel.store (by simp) _) ?_; clear hK K
              have zs14 := zs13.put (p := ⟨B4, 5, none⟩) (by simp; omega) (.slice (some ⟨N12, 0, none⟩) m m)
              have hZ14 := hZ13.set 5 (.slice (some ⟨N12, 0, none⟩) m m)
              have hb14 := hb13.put (p := ⟨B4, 5, none⟩) (by simp) (.slice (some ⟨N12, 0, none⟩) m m)
              generalize X13.setCell ⟨B4, 5, none⟩ (.slice (some ⟨N12, 0, none⟩) m m) = X14 at *
              clear f14 z14
              refine Dr.plan_q (l := [_]) rfl (fun K hK => ?_)
              iterate 1 (go_big_quiet_step (fail))
              refine wpQuiet_nil (hK _ ?_); clear hK K
              refine Dr.plan_done (tl := [_]) rfl ?_
              have f := hZ14.free 6
              have z : X14.cell? ⟨B4, 6, none⟩ = _ := hZ14.cell rfl
              go_wp2
              have zs9 := zs14.put (p := ⟨B4, 6, none⟩) (by simp; omega) (.slice (some ⟨N11, 0, none⟩) m m)
              have hb9 := hb14.put (p := ⟨B4, 6, none⟩) (by simp) (.slice (some ⟨N11, 0, none⟩) m m)
              have hZ9 := hZ14.set 6 (.slice (some ⟨N11, 0, none⟩) m m)
              have nd := zs9.nd
              simp at nd
              go_meet
              case rel => exact ⟨N1, N12, N11, by simpa using hZ9, zs9.at_ _ (by simp), zs9.at_ _ (by simp), zs9.at_ _ (by simp), by omega, by omega, by omega, hb9⟩
            · refine Dr.plan_e rfl (by rfl) (fun K hK => ?_)
              have f15 := hZ11.free 4
              have z15 : X11.cell? ⟨B4, 4, none⟩ = _ := hZ11.cell rfl
              go_wp2_with fail
              refine hK _ _ (Dr.Bel.store (by simp) _) ?_; clear hK K
              have zs15 := zs11.put (p := ⟨B4, 4, none⟩) (by simp; omega) (.slice (some ⟨N1, 0, none⟩) m m)
              have hZ15 := hZ11.set 4 (.slice (some ⟨N1, 0, none⟩) m m)
              have hb15 := hb11.put (p := ⟨B4, 4, none⟩) (by simp) (.slice (some ⟨N1, 0, none⟩) m m)
              generalize X11.setCell ⟨B4, 4, none⟩ (.slice (some ⟨N1, 0, none⟩) m m) = X15 at *
              clear f15 z15
              refine Dr.plan_e rfl (by rfl) (fun K hK => ?_)
              go_wp2_with fail
              refine hK _ _ (.of (ext_alloc _ _)) ?_; clear hK K
              have zs16 := zs15.mk1 hb15.size
              have hZ16 := hZ15.alloc (.cells ((tab m fun _ => 0).map (Value.int .i64)).toArray 3)
              have hb16 := hb15.then_below ((ext_alloc X15 (.cells ((tab m fun _ => 0).map (Value.int .i64)).toArray 3)).mono hb15.size)
              generalize X15.alloc (.cells ((tab m fun _ => 0).map (Value.int .i64)).toArray 3) = X16 at *
              generalize X15.heap.size = N16 at *
              refine Dr.plan_q (l := [_]) rfl (fun K hK => ?_)
              iterate 1 (go_big_quiet_step (fail))
              refine wpQuiet_nil (hK _ ?_); clear hK K
              refine Dr.plan_e rfl (by rfl) (fun K hK => ?_)
              have f17 := hZ16.free 5
              have z17 : X16.cell? ⟨B4, 5, none⟩ = _ := hZ16.cell rfl
              go_wp2_with fail
              refine hK _ _ (Dr.Bel.store (by simp) _) ?_; clear hK K
              have zs17 := zs16.put (p := ⟨B4, 5, none⟩) (by simp; omega) (.slice (some ⟨N16, 0, none⟩) m m)
              have hZ17 := hZ16.set 5 (.slice (some ⟨N16, 0, none⟩) m m)
              have hb17 := hb16.put (p := ⟨B4, 5, none⟩) (by simp) (.slice (some ⟨N16, 0, none⟩) m m)
              generalize X16.setCell ⟨B4, 5, none⟩ (.slice (some ⟨N16, 0, none⟩) m m) = X17 at *
              clear f17 z17
              refine Dr.plan_q (l := [_]) rfl (fun K hK => ?_)
              iterate 1 (go_big_quiet_step (fail))
              refine wpQuiet_nil (hK _ ?_); clear hK K
              refine Dr.plan_done (tl := [_]) rfl ?_
              have f := hZ17.free 6
              have z : X17.cell? ⟨B4, 6, none⟩ = _ := hZ17.cell rfl
              go_wp2
              have zs9 := zs17.put (p := ⟨B4, 6, none⟩) (by simp; omega) (.slice (some ⟨N11, 0, none⟩) m m)
              have hb9 := hb17.put (p := ⟨B4, 6, none⟩) (by simp) (.slice (some ⟨N11, 0, none⟩) m m)
              have hZ9 := hZ17.set 6 (.slice (some ⟨N11, 0, none⟩) m m)
              have nd := zs9.nd
              simp at nd
              go_meet
              case rel => exact ⟨N1, N16, N11, by simpa using hZ9, zs9.at_ _ (by simp), zs9.at_ _ (by simp), zs9.at_ _ (by simp), by omega, by omega, by omega, hb9⟩
          · refine Dr.plan_e rfl (by rfl) (fun K hK => ?_)
            have f18 := hZ1.free 4
            have z18 : X1.cell? ⟨B4, 4, none⟩ = _ := hZ1.cell rfl
            go_wp2_with fail
            refine hK _ _ (Dr.Bel.store (by simp) _) ?_; clear hK K
            have zs18 := zs1.put (p := ⟨B4, 4, none⟩) (by simp; omega) (.slice (some ⟨N1, 0, none⟩) m m)
            have hZ18 := hZ1.set 4 (.slice (some ⟨N1, 0, none⟩) m m)
            have hb18 := hb1.put (p := ⟨B4, 4, none⟩) (by simp) (.slice (some ⟨N1, 0, none⟩) m m)
            generalize X1.setCell ⟨B4, 4, none⟩ (.slice (some ⟨N1, 0, none⟩) m m) = X18 at *
            clear f18 z18
            refine Dr.plan_e2 ?_ ?_
            · refine Dr.plan_e rfl (by rfl) (fun K hK => ?_)
              go_wp2_with fail
              refine hK _ _ (.of (ext_alloc _ _)) ?_; clear hK K
              have zs19 := zs18.mk1 hb18.size
              have hZ19 := hZ18.alloc (.cells ((tab m fun _ => 0).map (Value.int .i64)).toArray 3)
              have hb19 := hb18.then_below ((ext_alloc X18 (.cells ((tab m fun _ => 0).map (Value.int .i64)).toArray 3)).mono hb18.size)
              generalize X18.alloc (.cells ((tab m fun _ => 0).map (Value.int .i64)).toArray 3) = X19 at *
              generalize X18.heap.size = N19 at *
              refine Dr.plan_q (l := [_]) rfl (fun K hK => ?_)
              iterate 1 (go_big_quiet_step (fail))
              refine wpQuiet_nil (hK _ ?_); clear hK K
              refine Dr.plan_e2 ?_ ?_
              · refine Dr.plan_e rfl (by rfl) (fun K hK => ?_)
                go_wp2_with fail
                refine hK _ _ (.of (ext_alloc _ _)) ?_; clear hK K
                have zs20 := zs19.mk1 hb19.size
                have hZ20 := hZ19.alloc (.cells ((tab m fun _ => 0).map (Value.int .i64)).toArray 3)
                have hb20 := hb19.then_below ((ext_alloc X19 (.cells ((tab m fun _ => 0).map (Value.int .i64)).toArray 3)).mono hb19.size)
                generalize X19.alloc (.cells ((tab m fun _ => 0).map (Value.int .i64)).toArray 3) = X20 at *
                generalize X19.heap.size = N20 at *
                refine Dr.plan_e rfl (by rfl) (fun K hK => ?_)
                have f21 := hZ20.free 5
                have z21 : X20.cell? ⟨B4, 5, none⟩ = _ := hZ20.cell rfl
                go_wp2_with fail
                refine hK _ _ (Dr.Bel.store (by simp) _) ?_; clear hK K
                have zs21 := zs20.put (p := ⟨B4, 5, none⟩) (by simp; omega) (.slice (some ⟨N19, 0, none⟩) m m)
                have hZ21 := hZ20.set 5 (.slice (some ⟨N19, 0, none⟩) m m)
                have hb21 := hb20.put (p := ⟨B4, 5, none⟩) (by simp) (.slice (some ⟨N19, 0, none⟩) m m)
                generalize X20.setCell ⟨B4, 5, none⟩ (.slice (some ⟨N19, 0, none⟩) m m) = X21 at *
                clear f21 z21
                refine Dr.plan_q (l := [_]) rfl (fun K hK => ?_)
                iterate 1 (go_big_quiet_step (fail))
                refine wpQuiet_nil (hK _ ?_); clear hK K
                refine Dr.plan_done (tl := [_]) rfl ?_
                have f := hZ21.free 6
                have z : X21.cell? ⟨B4, 6, none⟩ = _ := hZ21.cell rfl
                go_wp2
                have zs9 := zs21.put (p := ⟨B4, 6, none⟩) (by simp; omega) (.slice (some ⟨N20, 0, none⟩) m m)
                have hb9 := hb21.put (p := ⟨B4, 6, none⟩) (by simp) (.slice (some ⟨N20, 0, none⟩) m m)
                have hZ9 := hZ21.set 6 (.slice (some ⟨N20, 0, none⟩) m m)
                have nd := zs9.nd
                simp at nd
                go_meet
                case rel => exact ⟨N1, N19, N20, by simpa using hZ9, zs9.at_ _ (by simp), zs9.at_ _ (by simp), zs9.at_ _ (by simp), by omega, by omega, by omega, hb9⟩
              · refine Dr.plan_e rfl (by rfl) (fun K hK => ?_)
                have f22 := hZ19.free 5
                have z22 : X19.cell? ⟨B4, 5, none⟩ = _ := hZ19.cell rfl
                go_wp2_with fail
                refine hK _ _ (Dr.Bel.store (by simp) _) ?_; clear hK K
                have zs22 := zs19.put (p := ⟨B4, 5, none⟩) (by simp; omega) (.slice (some ⟨N19, 0, none⟩) m m)
                have hZ22 := hZ19.set 5 (.slice (some ⟨N19, 0, none⟩) m m)
                have hb22 := hb19.put (p := ⟨B4, 5, none⟩) (by simp) (.slice (some ⟨N19, 0, none⟩) m m)
                generalize X19.setCell ⟨B4, 5, none⟩ (.slice (some ⟨N19, 0, none⟩) m m) = X22 at *
                clear f22 z22
                refine Dr.plan_e rfl (by rfl) (fun K hK => ?_)
                go_wp2_with fail
                refine hK _ _ (.of (ext_alloc _ _)) ?_; clear hK K
                have zs23 := zs22.mk1 hb22.size
                have hZ23 := hZ22.alloc (.cells ((tab m fun _ => 0).map (Value.int .i64)).toArray 3)
                have hb23 := hb22.then_below ((ext_alloc X22 (.cells ((tab m fun _ => 0).map (Value.int .i64)).toArray 3)).mono hb22.size)
                generalize X22.alloc (.cells ((tab m fun _ => 0).map (Value.int .i64)).toArray 3) = X23 at *
                generalize X22.heap.size = N23 at *
                refine Dr.plan_q (l := [_]) rfl (fun K hK => ?_)
                iterate 1 (go_big_quiet_step (fail))
                refine wpQuiet_nil (hK _ ?_); clear hK K
                refine Dr.plan_done (tl := [_]) rfl ?_
                have f := hZ23.free 6
                have z : X23.cell? ⟨B4, 6, none⟩ = _ := hZ23.cell rfl
                go_wp2
                have zs9 := zs23.put (p := ⟨B4, 6, none⟩) (by simp; omega) (.slice (some ⟨N23, 0, none⟩) m m)
                have hb9 := hb23.put (p := ⟨B4, 6, none⟩) (by simp) (.slice (some ⟨N23, 0, none⟩) m m)
                have hZ9 := hZ23.set 6 (.slice (some ⟨N23, 0, none⟩) m m)
                have nd := zs9.nd
                simp at nd
                go_meet
                case rel => exact ⟨N1, N19, N23, by simpa using hZ9, zs9.at_ _ (by simp), zs9.at_ _ (by simp), zs9.at_ _ (by simp), by omega, by omega, by omega, hb9⟩
            · refine Dr.plan_e rfl (by rfl) (fun K hK => ?_)
              go_wp2_with fail
              refine hK _ _ (.of (ext_alloc _ _)) ?_; clear hK K
              have zs24 := zs18.mk1 hb18.size
              have hZ24 := hZ18.alloc (.cells ((tab m fun _ => 0).map (Value.int .i64)).toArray 3)
              have hb24 := hb18.then_below ((ext_alloc X18 (.cells ((tab m fun _ => 0).map (Value.int .i64)).toArray 3)).mono hb18.size)
              generalize X18.alloc (.cells ((tab m fun _ => 0).map (Value.int .i64)).toArray 3) = X24 at *
              generalize X18.heap.size = N24 at *
              refine Dr.plan_e rfl (by rfl) (fun K hK => ?_)
              go_wp2_with fail
              refine hK _ _ (.of (ext_alloc _ _)) ?_; clear hK K
              have zs25 := zs24.mk1 hb24.size
              have hZ25 := hZ24.alloc (.cells ((tab m fun _ => 0).map (Value.int .i64)).toArray 3)
              have hb25 := hb24.then_below ((ext_alloc X24 (.cells ((tab m fun _ => 0).map (Value.int .i64)).toArray 3)).mono hb24.size)
              generalize X24.alloc (.cells ((tab m fun _ => 0).map (Value.int .i64)).toArray 3) = X25 at *
              generalize X24.heap.size = N25 at *
              refine Dr.plan_q (l := [_]) rfl (fun K hK => ?_)
              iterate 1 (go_big_quiet_step (fail))
              refine wpQuiet_nil (hK _ ?_); clear hK K
              refine Dr.plan_e rfl (by rfl) (fun K hK => ?_)
              have f26 := hZ25.free 5
              have z26 : X25.cell? ⟨B4, 5, none⟩ = _ := hZ25.cell rfl
              go_wp2_with fail
              refine hK _ _ (Dr.Bel.store (by simp) _) ?_; clear hK K
              have zs26 := zs25.put (p := ⟨B4, 5, none⟩) (by simp; omega) (.slice (some ⟨N25, 0, none⟩) m m)
              have hZ26 := hZ25.set 5 (.slice (some ⟨N25, 0, none⟩) m m)
              have hb26 := hb25.put (p := ⟨B4, 5, none⟩) (by simp) (.slice (some ⟨N25, 0, none⟩) m m)
              generalize X25.setCell ⟨B4, 5, none⟩ (.slice (some ⟨N25, 0, none⟩) m m) = X26 at *
              clear f26 z26
              refine Dr.plan_q (l := [_]) rfl (fun K hK => ?_)
              iterate 1 (go_big_quiet_step (fail))
              refine wpQuiet_nil (hK _ ?_); clear hK K
              refine Dr.plan_done (tl := [_]) rfl ?_
              have f := hZ26.free 6
              have z : X26.cell? ⟨B4, 6, none⟩ = _ := hZ26.cell rfl
              go_wp2
              have zs9 := zs26.put (p := ⟨B4, 6, none⟩) (by simp; omega) (.slice (some ⟨N24, 0, none⟩) m m)
              have hb9 := hb26.put (p := ⟨B4, 6, none⟩) (by simp) (.slice (some ⟨N24, 0, none⟩) m m)
              have hZ9 := hZ26.set 6 (.slice (some ⟨N24, 0, none⟩) m m)
              have nd := zs9.nd
              simp at nd
              go_meet
              case rel => exact ⟨N1, N25, N24, by simpa using hZ9, zs9.at_ _ (by simp), zs9.at_ _ (by simp), zs9.at_ _ (by simp), by omega, by omega, by omega, hb9⟩
        · refine Dr.plan_e rfl (by rfl) (fun K hK => ?_)
          go_wp2_with fail
          refine hK _ _ (.of (ext_alloc _ _)) ?_; clear hK K
          have zs27 := zs.mk1 hb.size
          have hZ27 := hZ.alloc (.cells ((tab m fun _ => 0).map (Value.int .i64)).toArray 3)
          have hb27 := hb.then_below ((ext_alloc W (.cells ((tab m fun _ => 0).map (Value.int .i64)).toArray 3)).mono hb.size)
          generalize W.alloc (.cells ((tab m fun _ => 0).map (Value.int .i64)).toArray 3) = X27 at *
          generalize W.heap.size = N27 at *
          refine Dr.plan_e2 ?_ ?_
          · refine Dr.plan_e rfl (by rfl) (fun K hK => ?_)
            go_wp2_with fail
            refine hK _ _ (.of (ext_alloc _ _)) ?_; clear hK K
            have zs28 := zs27.mk1 hb27.size
            have hZ28 := hZ27.alloc (.cells ((tab m fun _ => 0).map (Value.int .i64)).toArray 3)
            have hb28 := hb27.then_below ((ext_alloc X27 (.cells ((tab m fun _ => 0).map (Value.int .i64)).toArray 3)).mono hb27.size)
            generalize X27.alloc (.cells ((tab m fun _ => 0).map (Value.int .i64)).toArray 3) = X28 at *
            generalize X27.heap.size = N28 at *
            refine Dr.plan_q (l := [_]) rfl (fun K hK => ?_)
            iterate 1 (go_big_quiet_step (fail))
            refine wpQuiet_nil (hK _ ?_); clear hK K
            refine Dr.plan_e2 ?_ ?_
            · refine Dr.plan_e rfl (by rfl) (fun K hK => ?_)
              go_wp2_with fail
              refine hK _ _ (.of (ext_alloc _ _)) ?_; clear hK K
              have zs29 := zs28.mk1 hb28.size
              have hZ29 := hZ28.alloc (.cells ((tab m fun _ => 0).map (Value.int .i64)).toArray 3)
              have hb29 := hb28.then_below ((ext_alloc X28 (.cells ((tab m fun _ => 0).map (Value.int .i64)).toArray 3)).mono hb28.size)
              generalize X28.alloc (.cells ((tab m fun _ => 0).map (Value.int .i64)).toArray 3) = X29 at *
              generalize X28.heap.size = N29 at *
              refine Dr.plan_e rfl (by rfl) (fun K hK => ?_)
              have f30 := hZ29.free 4
              have z30 : X29.cell? ⟨B4, 4, none⟩ = _ := hZ29.cell rfl
              go_wp2_with fail
              refine hK _ _ (Dr.Bel.store (by simp) _) ?_; clear hK K
              have zs30 := zs29.put (p := ⟨B4, 4, none⟩) (by simp; omega) (.slice (some ⟨N28, 0, none⟩) m m)
              have hZ30 := hZ29.set 4 (.slice (some ⟨N28, 0, none⟩) m m)
              have hb30 := hb29.put (p := ⟨B4, 4, none⟩) (by simp) (.slice (some ⟨N28, 0, none⟩) m m)
              generalize X29.setCell ⟨B4, 4, none⟩ (.slice (some ⟨N28, 0, none⟩) m m) = X30 at *
              clear f30 z30
              refine Dr.plan_q (l := [_]) rfl (fun K hK => ?_)
              iterate 1 (go_big_quiet_step (fail))
              refine wpQuiet_nil (hK _ ?_); clear hK K
              refine Dr.plan_e rfl (by rfl) (fun K hK => ?_)
              have f31 := hZ30.free 5
              have z31 : X30.cell? ⟨B4, 5, none⟩ = _ := hZ30.cell rfl
              go_wp2_with fail
              refine hK _ _ (Dr.Bel.store (by simp) _) ?_; clear hK K
              have zs31 := zs30.put (p := ⟨B4, 5, none⟩) (by simp; omega) (.slice (some ⟨N27, 0, none⟩) m m)
              have hZ31 := hZ30.set 5 (.slice (some ⟨N27, 0, none⟩) m m)
              have hb31 := hb30.put (p := ⟨B4, 5, none⟩) (by simp) (.slice (some ⟨N27, 0, none⟩) m m)
              generalize X30.setCell ⟨B4, 5, none⟩ (.slice (some ⟨N27, 0, none⟩) m m) = X31 at *
              clear f31 z31
              refine Dr.plan_q (l := [_]) rfl (fun K hK => ?_)
              iterate 1 (go_big_quiet_step (fail))
              refine wpQuiet_nil (hK _ ?_); clear hK K
              refine Dr.plan_done (tl := [_]) rfl ?_
              have f := hZ31.free 6
              have z : X31.cell? ⟨B4, 6, none⟩ = _ := hZ31.cell rfl
              go_wp2
              have zs9 := zs31.put (p := ⟨B4, 6, none⟩) (by simp; omega) (.slice (some ⟨N29, 0, none⟩) m m)
              have hb9 := hb31.put (p := ⟨B4, 6, none⟩) (by simp) (.slice (some ⟨N29, 0, none⟩) m m)
              have hZ9 := hZ31.set 6 (.slice (some ⟨N29, 0, none⟩) m m)
              have nd := zs9.nd
              simp at nd
              go_meet
              case rel => exact ⟨N28, N27, N29, by simpa using hZ9, zs9.at_ _ (by simp), zs9.at_ _ (by simp), zs9.at_ _ (by simp), by omega, by omega, by omega, hb9⟩
            · refine Dr.plan_e rfl (by rfl) (fun K hK => ?_)
              have f32 := hZ28.free 4
              have z32 : X28.cell? ⟨B4, 4, none⟩ = _ := hZ28.cell rfl
              go_wp2_with fail
              refine hK _ _ (Dr.Bel.store (by simp) _) ?_; clear hK K
              have zs32 := zs28.put (p := ⟨B4, 4, none⟩) (by simp; omega) (.slice (some ⟨N28, 0, none⟩) m m)
              have hZ32 := hZ28.set 4 (.slice (some ⟨N28, 0, none⟩) m m)
              have hb32 := hb28.put (p := ⟨B4, 4, none⟩) (by simp) (.slice (some ⟨N28, 0, none⟩) m m)
              generalize X28.setCell ⟨B4, 4, none⟩ (.slice (some ⟨N28, 0, none⟩) m m) = X32 at *
              clear f32 z32
              refine Dr.plan_q (l := [_]) rfl (fun K hK => ?_)
              iterate 1 (go_big_quiet_step (fail))
              refine wpQuiet_nil (hK _ ?_); clear hK K
              refine Dr.plan_e2 ?_ ?_
              · refine Dr.plan_e rfl (by rfl) (fun K hK => ?_)
                go_wp2_with fail
                refine hK _ _ (.of (ext_alloc _ _)) ?_; clear hK K
                have zs33 := zs32.mk1 hb32.size
                have hZ33 := hZ32.alloc (.cells ((tab m fun _ => 0).map (Value.int .i64)).toArray 3)
                have hb33 := hb32.then_below ((ext_alloc X32 (.cells ((tab m fun _ => 0).map (Value.int .i64)).toArray 3)).mono hb32.size)
                generalize X32.alloc (.cells ((tab m fun _ => 0).map (Value.int .i64)).toArray 3) = X33 at *
                generalize X32.heap.size = N33 at *
                refine Dr.plan_e rfl (by rfl) (fun K hK => ?_)
                have f34 := hZ33.free 5
                have z34 : X33.cell? ⟨B4, 5, none⟩ = _ := hZ33.cell rfl
                go_wp2_with fail
                refine hK _ _ (Dr.Bel.store (by simp) _) ?_; clear hK K
                have zs34 := zs33.put (p := ⟨B4, 5, none⟩) (by simp; omega) (.slice (some ⟨N27, 0, none⟩) m m)
                have hZ34 := hZ33.set 5 (.slice (some ⟨N27, 0, none⟩) m m)
                have hb34 := hb33.put (p := ⟨B4, 5, none⟩) (by simp) (.slice (some ⟨N27, 0, none⟩) m m)
                generalize X33.setCell ⟨B4, 5, none⟩ (.slice (some ⟨N27, 0, none⟩) m m) = X34 at *
                clear f34 z34
                refine Dr.plan_q (l := [_]) rfl (fun K hK => ?_)
                iterate 1 (go_big_quiet_step (fail))
                refine wpQuiet_nil (hK _ ?_); clear hK K
                refine Dr.plan_done (tl := [_]) rfl ?_
                have f := hZ34.free 6
                have z : X34.cell? ⟨B4, 6, none⟩ = _ := hZ34.cell rfl
                go_wp2
                have zs9 := zs34.put (p := ⟨B4, 6, none⟩) (by simp; omega) (.slice (some ⟨N33, 0, none⟩) m m)
                have hb9 := hb34.put (p := ⟨B4, 6, none⟩) (by simp) (.slice (some ⟨N33, 0, none⟩) m m)
                have hZ9 := hZ34.set 6 (.slice (some ⟨N33, 0, none⟩) m m)
                have nd := zs9.nd
                simp at nd
                go_meet
                case rel => exact ⟨N28, N27, N33, by simpa using hZ9, zs9.at_ _ (by simp), zs9.at_ _ (by simp), zs9.at_ _ (by simp), by omega, by omega, by omega, hb9⟩
              · refine Dr.plan_e rfl (by rfl) (fun K hK => ?_)
                have f35 := hZ32.free 5
                have z35 : X32.cell? ⟨B4, 5, none⟩ = _ := hZ32.cell rfl
                go_wp2_with fail
                refine hK _ _ (Dr.Bel.store (by simp) _) ?_; clear hK K
                have zs35 := zs32.put (p := ⟨B4, 5, none⟩) (by simp; omega) (.slice (some ⟨N27, 0, none⟩) m m)
                have hZ35 := hZ32.set 5 (.slice (some ⟨N27, 0, none⟩) m m)
                have hb35 := hb32.put (p := ⟨B4, 5, none⟩) (by simp) (.slice (some ⟨N27, 0, none⟩) m m)
                generalize X32.setCell ⟨B4, 5, none⟩ (.slice (some ⟨N27, 0, none⟩) m m) = X35 at *
                clear f35 z35
                refine Dr.plan_e rfl (by rfl) (fun K hK => ?_)
                go_wp2_with fail
                refine hK _ _ (.of (ext_alloc _ _)) ?_; clear hK K
                have zs36 := zs35.mk1 hb35.size
                have hZ36 := hZ35.alloc (.cells ((tab m fun _ => 0).map (Value.int .i64)).toArray 3)
                have hb36 := hb35.then_below ((ext_alloc X35 (.cells ((tab m fun _ => 0).map (Value.int .i64)).toArray 3)).mono hb35.size)
                generalize X35.alloc (.cells ((tab m fun _ => 0).map (Value.int .i64)).toArray 3) = X36 at *
                generalize X35.heap.size = N36 at *
                refine Dr.plan_q (l := [_]) rfl (fun K hK => ?_)
                iterate 1 (go_big_quiet_step (fail))
                refine wpQuiet_nil (hK _ ?_); clear hK K
                refine Dr.plan_done (tl := [_]) rfl ?_
                have f := hZ36.free 6
                have z : X36.cell? ⟨B4, 6, none⟩ = _ := hZ36.cell rfl
                go_wp2
                have zs9 := zs36.put (p := ⟨B4, 6, none⟩) (by simp; omega) (.slice (some ⟨N36, 0, none⟩) m m)
                have hb9 := hb36.put (p := ⟨B4, 6, none⟩) (by simp) (.slice (some ⟨N36, 0, none⟩) m m)
                have hZ9 := hZ36.set 6 (.slice (some ⟨N36, 0, none⟩) m m)
                have nd := zs9.nd
                simp at nd
                go_meet
                case rel => exact ⟨N28, N27, N36, by simpa using hZ9, zs9.at_ _ (by simp), zs9.at_ _ (by simp), zs9.at_ _ (by simp), by omega, by omega, by omega, hb9⟩
          · refine Dr.plan_e rfl (by rfl) (fun K hK => ?_)
            go_wp2_with fail
            refine hK _ _ (.of (ext_alloc _ _)) ?_; clear hK K
            have zs37 := zs27.mk1 hb27.size
            have hZ37 := hZ27.alloc (.cells ((tab m fun _ => 0).map (Value.int .i64)).toArray 3)
            have hb37 := hb27.then_below ((ext_alloc X27 (.cells ((tab m fun _ => 0).map (Value.int .i64)).toArray 3)).mono hb27.size)
            generalize X27.alloc (.cells ((tab m fun _ => 0).map (Value.int .i64)).toArray 3) = X37 at *
            generalize X27.heap.size = N37 at *
            refine Dr.plan_e rfl (by rfl) (fun K hK => ?_)
            go_wp2_with fail
            refine hK _ _ (.of (ext_alloc _ _)) ?_; clear hK K
            have zs38 := zs37.mk1 hb37.size
            have hZ38 := hZ37.alloc (.cells ((tab m fun _ => 0).map (Value.int .i64)).toArray 3)
            have hb38 := hb37.then_below ((ext_alloc X37 (.cells ((tab m fun _ => 0).map (Value.int .i64)).toArray 3)).mono hb37.size)
            generalize X37.alloc (.cells ((tab m fun _ => 0).map (Value.int .i64)).toArray 3) = X38 at *
            generalize X37.heap.size = N38 at *
            refine Dr.plan_q (l := [_]) rfl (fun K hK => ?_)
            iterate 1 (go_big_quiet_step (fail))
            refine wpQuiet_nil (hK _ ?_); clear hK K
            refine Dr.plan_e rfl (by rfl) (fun K hK => ?_)
            have f39 := hZ38.free 4
            have z39 : X38.cell? ⟨B4, 4, none⟩ = _ := hZ38.cell rfl
            go_wp2_with fail
            refine hK _ _ (Dr.Bel.store (by simp) _) ?_; clear hK K
            have zs39 := zs38.put (p := ⟨B4, 4, none⟩) (by simp; omega) (.slice (some ⟨N38, 0, none⟩) m m)
            have hZ39 := hZ38.set 4 (.slice (some ⟨N38, 0, none⟩) m m)
            have hb39 := hb38.put (p := ⟨B4, 4, none⟩) (by simp) (.slice (some ⟨N38, 0, none⟩) m m)
            generalize X38.setCell ⟨B4, 4, none⟩ (.slice (some ⟨N38, 0, none⟩) m m) = X39 at *
            clear f39 z39
            refine Dr.plan_q (l := [_]) rfl (fun K hK => ?_)
            iterate 1 (go_big_quiet_step (fail))
            refine wpQuiet_nil (hK _ ?_); clear hK K
            refine Dr.plan_e rfl (by rfl) (fun K hK => ?_)
            have f40 := hZ39.free 5
            have z40 : X39.cell? ⟨B4, 5, none⟩ = _ := hZ39.cell rfl
            go_wp2_with fail
            refine hK _ _ (Dr.Bel.store (by simp) _) ?_; clear hK K
            have zs40 := zs39.put (p := ⟨B4, 5, none⟩) (by simp; omega) (.slice (some ⟨N27, 0, none⟩) m m)
            have hZ40 := hZ39.set 5 (.slice (some ⟨N27, 0, none⟩) m m)
            have hb40 := hb39.put (p := ⟨B4, 5, none⟩) (by simp) (.slice (some ⟨N27, 0, none⟩) m m)
            generalize X39.setCell ⟨B4, 5, none⟩ (.slice (some ⟨N27, 0, none⟩) m m) = X40 at *
            clear f40 z40
            refine Dr.plan_q (l := [_]) rfl (fun K hK => ?_)
            iterate 1 (go_big_quiet_step (fail))
            refine wpQuiet_nil (hK _ ?_); clear hK K
            refine Dr.plan_done (tl := [_]) rfl ?_
            have f := hZ40.free 6
            have z : X40.cell? ⟨B4, 6, none⟩ = _ := hZ40.cell rfl
            go_wp2
            have zs9 := zs40.put (p := ⟨B4, 6, none⟩) (by simp; omega) (.slice (some ⟨N37, 0, none⟩) m m)
            have hb9 := hb40.put (p := ⟨B4, 6, none⟩) (by simp) (.slice (some ⟨N37, 0, none⟩) m m)
            have hZ9 := hZ40.set 6 (.slice (some ⟨N37, 0, none⟩) m m)
            have nd := zs9.nd
            simp at nd
            go_meet
            case rel => exact ⟨N38, N27, N37, by simpa using hZ9, zs9.at_ _ (by simp), zs9.at_ _ (by simp), zs9.at_ _ (by simp), by omega, by omega, by omega, hb9⟩
        · refine Dr.plan_e rfl (by rfl) (fun K hK => ?_)
          go_wp2_with fail
          refine hK _ _ (.of (ext_alloc _ _)) ?_; clear hK K
          have zs41 := zs.mk1 hb.size
          have hZ41 := hZ.alloc (.cells ((tab m fun _ => 0).map (Value.int .i64)).toArray 3)
          have hb41 := hb.then_below ((ext_alloc W (.cells ((tab m fun _ => 0).map (Value.int .i64)).toArray 3)).mono hb.size)
          generalize W.alloc (.cells ((tab m fun _ => 0).map (Value.int .i64)).toArray 3) = X41 at *
          generalize W.heap.size = N41 at *
          refine Dr.plan_e2 ?_ ?_
          · refine Dr.plan_e rfl (by rfl) (fun K hK => ?_)
            go_wp2_with fail
            refine hK _ _ (.of (ext_alloc _ _)) ?_; clear hK K
            have zs42 := zs41.mk1 hb41.size
            have hZ42 := hZ41.alloc (.cells ((tab m fun _ => 0).map (Value.int .i64)).toArray 3)
            have hb42 := hb41.then_below ((ext_alloc X41 (.cells ((tab m fun _ => 0).map (Value.int .i64)).toArray 3)).mono hb41.size)
            generalize X41.alloc (.cells ((tab m fun _ => 0).map (Value.int .i64)).toArray 3) = X42 at *
            generalize X41.heap.size = N42 at *
            refine Dr.plan_q (l := [_]) rfl (fun K hK => ?_)
            iterate 1 (go_big_quiet_step (fail))
            refine wpQuiet_nil (hK _ ?_); clear hK K
            refine Dr.plan_e2 ?_ ?_
            · refine Dr.plan_e rfl (by rfl) (fun K hK => ?_)
              go_wp2_with fail
              refine hK _ _ (.of (ext_alloc _ _)) ?_; clear hK K
              have zs43 := zs42.mk1 hb42.size
              have hZ43 := hZ42.alloc (.cells ((tab m fun _ => 0).map (Value.int .i64)).toArray 3)
              have hb43 := hb42.then_below ((ext_alloc X42 (.cells ((tab m fun _ => 0).map (Value.int .i64)).toArray 3)).mono hb42.size)
              generalize X42.alloc (.cells ((tab m fun _ => 0).map (Value.int .i64)).toArray 3) = X43 at *
              generalize X42.heap.size = N43 at *
              refine Dr.plan_e rfl (by rfl) (fun K hK => ?_)
              have f44 := hZ43.free 4
              have z44 : X43.cell? ⟨B4, 4, none⟩ = _ := hZ43.cell rfl
              go_wp2_with fail
              refine hK _ _ (Dr.Bel.store (by simp) _) ?_; clear hK K
              have zs44 := zs43.put (p := ⟨B4, 4, none⟩) (by simp; omega) (.slice (some ⟨N42, 0, none⟩) m m)
              have hZ44 := hZ43.set 4 (.slice (some ⟨N42, 0, none⟩) m m)
              have hb44 := hb43.put (p := ⟨B4, 4, none⟩) (by simp) (.slice (some ⟨N42, 0, none⟩) m m)
              generalize X43.setCell ⟨B4, 4, none⟩ (.slice (some ⟨N42, 0, none⟩) m m) = X44 at *
              clear f44 z44
              refine Dr.plan_q (l := [_]) rfl (fun K hK => ?_)
              iterate 1 (go_big_quiet_step (fail))
              refine wpQuiet_nil (hK _ ?_); clear hK K
              refine Dr.plan_e rfl (by rfl) (fun K hK => ?_)
              have f45 := hZ44.free 5
              have z45 : X44.cell? ⟨B4, 5, none⟩ = _ := hZ44.cell rfl
              go_wp2_with fail
              refine hK _ _ (Dr.Bel.store (by simp) _) ?_; clear hK K
              have zs45 := zs44.put (p := ⟨B4, 5, none⟩) (by simp; omega) (.slice (some ⟨N43, 0, none⟩) m m)
              have hZ45 := hZ44.set 5 (.slice (some ⟨N43, 0, none⟩) m m)
              have hb45 := hb44.put (p := ⟨B4, 5, none⟩) (by simp) (.slice (some ⟨N43, 0, none⟩) m m)
              generalize X44.setCell ⟨B4, 5, none⟩ (.slice (some ⟨N43, 0, none⟩) m m) = X45 at *
              clear f45 z45
              refine Dr.plan_q (l := [_]) rfl (fun K hK => ?_)
              iterate 1 (go_big_quiet_step (fail))
              refine wpQuiet_nil (hK _ ?_); clear hK K
              refine Dr.plan_done (tl := [_]) rfl ?_
              have f := hZ45.free 6
              have z : X45.cell? ⟨B4, 6, none⟩ = _ := hZ45.cell rfl
              go_wp2
              have zs9 := zs45.put (p := ⟨B4, 6, none⟩) (by simp; omega) (.slice (some ⟨N41, 0, none⟩) m m)
              have hb9 := hb45.put (p := ⟨B4, 6, none⟩) (by simp) (.slice (some ⟨N41, 0, none⟩) m m)
              have hZ9 := hZ45.set 6 (.slice (some ⟨N41, 0, none⟩) m m)
              have nd := zs9.nd
              simp at nd
              go_meet
              case rel => exact ⟨N42, N43, N41, by simpa using hZ9, zs9.at_ _ (by simp), zs9.at_ _ (by simp), zs9.at_ _ (by simp), by omega, by omega, by omega, hb9⟩
            · refine Dr.plan_e rfl (by rfl) (fun K hK => ?_)
              have f46 := hZ42.free 4
              have z46 : X42.cell? ⟨B4, 4, none⟩ = _ := hZ42.cell rfl
              go_wp2_with fail
              refine hK _ _ (Dr.Bel.store (by simp) _) ?_; clear hK K
              have zs46 := zs42.put (p := ⟨B4, 4, none⟩) (by simp; omega) (.slice (some ⟨N42, 0, none⟩) m m)
              have hZ46 := hZ42.set 4 (.slice (some ⟨N42, 0, none⟩) m m)
              have hb46 := hb42.put (p := ⟨B4, 4, none⟩) (by simp) (.slice (some ⟨N42, 0, none⟩) m m)
              generalize X42.setCell ⟨B4, 4, none⟩ (.slice (some ⟨N42, 0, none⟩) m m) = X46 at *
              clear f46 z46
              refine Dr.plan_e rfl (by rfl) (fun K hK => ?_)
              go_wp2_with fail
              refine hK _ _ (.of (ext_alloc _ _)) ?_; clear hK K
              have zs47 := zs46.mk1 hb46.size
              have hZ47 := hZ46.alloc (.cells ((tab m fun _ => 0).map (Value.int .i64)).toArray 3)
              have hb47 := hb46.then_below ((ext_alloc X46 (.cells ((tab m fun _ => 0).map (Value.int .i64)).toArray 3)).mono hb46.size)
              generalize X46.alloc (.cells ((tab m fun _ => 0).map (Value.int .i64)).toArray 3) = X47 at *
              generalize X46.heap.size = N47 at *
              refine Dr.plan_q (l := [_]) rfl (fun K hK => ?_)
              iterate 1 (go_big_quiet_step (fail))
              refine wpQuiet_nil (hK _ ?_); clear hK K
              refine Dr.plan_e rfl (by rfl) (fun K hK => ?_)
              have f48 := hZ47.free 5
              have z48 : X47.cell? ⟨B4, 5, none⟩ = _ := hZ47.cell rfl
              go_wp2_with fail
              refine hK _ _ (Dr.Bel.store (by simp) _) ?_; clear hK K
              have zs48 := zs47.put (p := ⟨B4, 5, none⟩) (by simp; omega) (.slice (some ⟨N47, 0, none⟩) m m)
              have hZ48 := hZ47.set 5 (.slice (some ⟨N47, 0, none⟩) m m)
              have hb48 := hb47.put (p := ⟨B4, 5, none⟩) (by simp) (.slice (some ⟨N47, 0, none⟩) m m)
              generalize X47.setCell ⟨B4, 5, none⟩ (.slice (some ⟨N47, 0, none⟩) m m) = X48 at *
              clear f48 z48
              refine Dr.plan_q (l := [_]) rfl (fun K hK => ?_)
              iterate 1 (go_big_quiet_step (fail))
              refine wpQuiet_nil (hK _ ?_); clear hK K
              refine Dr.plan_done (tl := [_]) rfl ?_
              have f := hZ48.free 6
              have z : X48.cell? ⟨B4, 6, none⟩ = _ := hZ48.cell rfl
              go_wp2
              have zs9 := zs48.put (p := ⟨B4, 6, none⟩) (by simp; omega) (.slice (some ⟨N41, 0, none⟩) m m)
              have hb9 := hb48.put (p := ⟨B4, 6, none⟩) (by simp) (.slice (some ⟨N41, 0, none⟩) m m)
              have hZ9 := hZ48.set 6 (.slice (some ⟨N41, 0, none⟩) m m)
              have nd := zs9.nd
              simp at nd
              go_meet
              case rel => exact ⟨N42, N47, N41, by simpa using hZ9, zs9.at_ _ (by simp), zs9.at_ _ (by simp), zs9.at_ _ (by simp), by omega, by omega, by omega, hb9⟩
          · refine Dr.plan_e rfl (by rfl) (fun K hK => ?_)
            go_wp2_with fail
            refine hK _ _ (.of (ext_alloc _ _)) ?_; clear hK K
            have zs49 := zs41.mk1 hb41.size
            have hZ49 := hZ41.alloc (.cells ((tab m fun _ => 0).map (Value.int .i64)).toArray 3)
            have hb49 := hb41.then_below ((ext_alloc X41 (.cells ((tab m fun _ => 0).map (Value.int .i64)).toArray 3)).mono hb41.size)
            generalize X41.alloc (.cells ((tab m fun _ => 0).map (Value.int .i64)).toArray 3) = X49 at *
            generalize X41.heap.size = N49 at *
            refine Dr.plan_e rfl (by rfl) (fun K hK => ?_)
            go_wp2_with fail
            refine hK _ _ (.of (ext_alloc _ _)) ?_; clear hK K
            have zs50 := zs49.mk1 hb49.size
            have hZ50 := hZ49.alloc (.cells ((tab m fun _ => 0).map (Value.int .i64)).toArray 3)
            have hb50 := hb49.then_below ((ext_alloc X49 (.cells ((tab m fun _ => 0).map (Value.int .i64)).toArray 3)).mono hb49.size)
            generalize X49.alloc (.cells ((tab m fun _ => 0).map (Value.int .i64)).toArray 3) = X50 at *
            generalize X49.heap.size = N50 at *
            refine Dr.plan_q (l := [_]) rfl (fun K hK => ?_)
            iterate 1 (go_big_quiet_step (fail))
            refine wpQuiet_nil (hK _ ?_); clear hK K
            refine Dr.plan_e rfl (by rfl) (fun K hK => ?_)
            have f51 := hZ50.free 4
            have z51 : X50.cell? ⟨B4, 4, none⟩ = _ := hZ50.cell rfl
            go_wp2_with fail
            refine hK _ _ (Dr.Bel.store (by simp) _) ?_; clear hK K
            have zs51 := zs50.put (p := ⟨B4, 4, none⟩) (by simp; omega) (.slice (some ⟨N50, 0, none⟩) m m)
            have hZ51 := hZ50.set 4 (.slice (some ⟨N50, 0, none⟩) m m)
            have hb51 := hb50.put (p := ⟨B4, 4, none⟩) (by simp) (.slice (some ⟨N50, 0, none⟩) m m)
            generalize X50.setCell ⟨B4, 4, none⟩ (.slice (some ⟨N50, 0, none⟩) m m) = X51 at *
            clear f51 z51
            refine Dr.plan_q (l := [_]) rfl (fun K hK => ?_)
            iterate 1 (go_big_quiet_step (fail))
            refine wpQuiet_nil (hK _ ?_); clear hK K
            refine Dr.plan_e rfl (by rfl) (fun K hK => ?_)
            have f52 := hZ51.free 5
            have z52 : X51.cell? ⟨B4, 5, none⟩ = _ := hZ51.cell rfl
            go_wp2_with fail
            refine hK _ _ (Dr.Bel.store (by simp) _) ?_; clear hK K
            have zs52 := zs51.put (p := ⟨B4, 5, none⟩) (by simp; omega) (.slice (some ⟨N49, 0, none⟩) m m)
            have hZ52 := hZ51.set 5 (.slice (some ⟨N49, 0, none⟩) m m)
            have hb52 := hb51.put (p := ⟨B4, 5, none⟩) (by simp) (.slice (some ⟨N49, 0, none⟩) m m)
            generalize X51.setCell ⟨B4, 5, none⟩ (.slice (some ⟨N49, 0, none⟩) m m) = X52 at *
            clear f52 z52
            refine Dr.plan_q (l := [_]) rfl (fun K hK => ?_)
            iterate 1 (go_big_quiet_step (fail))
            refine wpQuiet_nil (hK _ ?_); clear hK K
            refine Dr.plan_done (tl := [_]) rfl ?_
            have f := hZ52.free 6
            have z : X52.cell? ⟨B4, 6, none⟩ = _ := hZ52.cell rfl
            go_wp2
            have zs9 := zs52.put (p := ⟨B4, 6, none⟩) (by simp; omega) (.slice (some ⟨N41, 0, none⟩) m m)
            have hb9 := hb52.put (p := ⟨B4, 6, none⟩) (by simp) (.slice (some ⟨N41, 0, none⟩) m m)
            have hZ9 := hZ52.set 6 (.slice (some ⟨N41, 0, none⟩) m m)
            have nd := zs9.nd
            simp at nd
            go_meet
            case rel => exact ⟨N50, N49, N41, by simpa using hZ9, zs9.at_ _ (by simp), zs9.at_ _ (by simp), zs9.at_ _ (by simp), by omega, by omega, by omega, hb9⟩
      case rest =>
        obtain ⟨g1, g2, g3, hZ9, ⟨hg1, I1⟩, ⟨hg2, I2⟩, ⟨hg3, I3⟩, n12, n13, n23, hb9⟩ := hcut
        clear hmk
        have hX9 := hb9.blk hX8 (by simp; omega)
        have hb11 := hb8.trans hb9
        have hB9 : Cells wc B 3 Ctr.enc wk.ctrs := by
          by_cases h0 : 0 < m
          · exact cells_bel hB2 hb11 (fun q hq => by have := hBlt q hq h0; simp; omega)
          · intro i x hi
            have := (List.getElem?_eq_some_iff.1 hi).1
            have := Hm.out
            omega
        have hv9 := cells_bel hv8 hb9 (fun q hq => by have := (hgv q hq).1; simp; omega)
        have hu9 := cells_bel hu8 hb9 (fun q hq => by have := (hgu q hq).1; simp; omega)
        have hbw9 : Below w.heap.size w wc := hb3.trans (hb11.old (by omega) (by simp; omega))
        have hY9 := hb11.blk hY2 (by simp; omega)
        have hs9 := hb9.size
        have hs82 := hb8.size
        have L1 := I1.lt
        have L2 := I2.lt
        have L3 := I3.lt
        clear hZ8 hX8 hb8 hb9 hb11 hv8 hu8 hB2 hX2 hY2
        have Hbd := Lib.hid (fun c i (hi : i ≤ m) => Hk.out.payL_bd (wk.done m c i) (fun x hx => by have := wk.done_mem m c i hi x hx; have := Hm.out; omega))
        have H00 := Lib.hid (show wk.payL (wk.done m 0 0) = (pot - pm, fun _ => 0) by rw [wk.done_zero]; show (wk.pot - wk.prem, _) = _; rw [hpp, hppm])
        go_wp2
        go_loopw [4, 9, 10] (fun lf x _ wr => ∃ (c : Nat) (sh : Nat → Int), x = .int .i64 c ∧ c ≤ 101 ∧ lf = .int .i64 (wk.payL (wk.done m c 0)).1 ∧ IArr wr g1 3 (tab m (wk.payL (wk.done m c 0)).2) ∧ IArr wr g2 3 (tab m sh) ∧ Hid (∀ x ∈ wk.done m c 0, sh x.toNat = (ctr wk x.toNat).wage - (wk.payL (wk.done m c 0)).2 x.toNat) ∧ Dr.Bel [g1, g2] wc wr) (fun _ x _ _ => 101 - (intOf x).toNat)
        case atStart =>
          refine ⟨0, fun _ => 0, rfl, by omega, by rw [H00.out], by rw [H00.out]; exact I1, I2, Lib.hid (fun x hx => by rw [wk.done_zero] at hx; simp [rfL] at hx), Dr.Bel.refl _ _⟩
        case round =>
          obtain ⟨c, sh, rfl, hc, rfl, J1, J2, Hsh, hb⟩ := hrel
          by_cases hlt : c ≤ 100
          · have hlt' : (c : Int) ≤ 100 := by omega
            go_wp2
            generalize wr = w4 at *
            go_loopw [4, 10] (fun lf x wr => ∃ (i : Nat) (sh : Nat → Int), x = .int .i64 i ∧ i ≤ m ∧ lf = .int .i64 (wk.payL (wk.done m c i)).1 ∧ IArr wr g1 3 (tab m (wk.payL (wk.done m c i)).2) ∧ IArr wr g2 3 (tab m sh) ∧ Hid (∀ x ∈ wk.done m c i, sh x.toNat = (ctr wk x.toNat).wage - (wk.payL (wk.done m c i)).2 x.toNat) ∧ Dr.Bel [g1, g2] wc wr) (fun _ x _ => m - (intOf x).toNat)
            case atStart => exact ⟨0, sh, rfl, by omega, rfl, J1, J2, Hsh, hb⟩
            case round =>
              clear J1 J2 Hsh hb
              obtain ⟨i, sh, rfl, hi, rfl, J1, J2, Hsh, hb⟩ := hrel
              have hXr := hb.blk hX9 (by simp; omega)
              have x2 : wr.cell? ⟨w.heap.size, 2, none⟩ = _ := hXr.cell rfl
              by_cases hilt : i < m
              · have hilt' : (i : Int) < (m : Int) := by omega
                have hil : i < wk.ctrs.length := by rw [Hm.out]; exact hilt
                obtain ⟨b, off, rfl, hlt6, d0, d1, d2⟩ := hB9.at3 hil rfl
                have hci : wk.ctrs[i] = ctr wk i := by simp [ctr, hil]
                have hwg := (Hk.out.cok _ (List.getElem_mem hil)).wg
                rw [hci] at d0 d1 d2 hwg
                have hbB := hBlt b (by simp) (by omega)
                have e0 := (World.cell?_of_block (hb.block b hlt6 (by simp; omega))).trans d0
                by_cases hr : (ctr wk i).rank = c
                · have hd1 := wk.done_hit m c i hr
                  have hbd := Hbd.out c i (by omega)
                  have hpay : wk.payL (wk.done m c (i + 1)) = ((wk.payL (wk.done m c i)).1 - min (wk.payL (wk.done m c i)).1 (ctr wk i).wage, upd (wk.payL (wk.done m c i)).2 i (min (wk.payL (wk.done m c i)).1 (ctr wk i).wage)) := by rw [hd1, wk.payL_snoc]; rfl
                  have hsh2 : ∀ x ∈ wk.done m c (i + 1), upd sh i ((ctr wk i).wage - min (wk.payL (wk.done m c i)).1 (ctr wk i).wage) x.toNat = (ctr wk x.toNat).wage - (wk.payL (wk.done m c (i + 1))).2 x.toNat := fun x hx => by
                    rw [hpay]
                    simp only [upd]
                    by_cases e : x.toNat = i
                    · rw [if_pos e, if_pos e, e]
                    · rw [if_neg e, if_neg e]
                      rw [hd1] at hx
                      rcases List.mem_append.1 hx with h | h
                      · exact Hsh.out x h
                      · simp at h; subst h; simp at e
                  have Hsh2 := Lib.hid hsh2
                  have Hpay := Lib.hid hpay
                  have hr' : ((ctr wk i).rank == (c : Int)) = true := by simpa using hr
                  clear hsh2 hpay hd1 hci
                  generalize (ctr wk i).wage = wg at *
                  generalize hpj : wk.payL (wk.done m c i) = PJ at *
                  obtain ⟨lf, pf⟩ := PJ
                  simp only at J1 hbd Hpay Hsh2 ⊢
                  have hpi := hbd.2 i
                  go_upto_region 22 with fail
                  refine Dr.wp_region_plan 12 [] (.q [0, 1, 2, 3, 4, 5, 6, 7, 8, 9, 10, 11] .done) (by kernel_rfl) (by kernel_rfl) ?_
                  have hb2 := hb.then_below ((ext_drew wr).mono hb.size)
                  have J12 : IArr wr.drew g1 3 _ := Blk.drew J1
                  have J22 : IArr wr.drew g2 3 _ := Blk.drew J2
                  clear J1 J2 hb hXr x2 e0 d0 d2
                  generalize wr.drew = W at *
                  have hZ2 := hb2.blk hZ9 (by simp; omega)
                  have hX2 := hb2.blk hX9 (by simp; omega)
                  have q0 := Dr.cell0 (hZ2.cell (i := 4) rfl)
                  have q1 := Dr.cell0 (hX2.cell (i := 2) rfl)
                  have q2 := Dr.cell0 ((World.cell?_of_block (hb2.block b hlt6 (by simp; omega))).trans d1)
                  refine Dr.plan_q (l := [_, _, _, _, _, _, _, _, _, _, _, _]) rfl (fun K hK => ?_)
                  iterate 12 (go_big_quiet_step (fail))
                  refine wpQuiet_nil (hK _ ?_); clear hK K
                  clear q0 q1 q2
                  have c1 : W.cell? ⟨g1, i, none⟩ = _ := J12.cell (tab_get _ hilt)
                  have f1 := J12.free i
                  refine Dr.plan_done (tl := [_]) rfl ?_
                  go_upto_region 23 with fail
                  rw [show (if wg < lf then wg else lf) = min lf wg by omega]
                  generalize hmn : min lf wg = mn at *
                  have hmn2 : 0 ≤ mn ∧ mn ≤ wg ∧ mn ≤ lf := by omega
                  have J13 := J12.set i mn
                  have J23 := J22.other (p := ⟨g1, i, none⟩) (by simp; omega) (.int .i64 mn)
                  have hb3 := hb2.put (p := ⟨g1, i, none⟩) (by simp) (.int .i64 mn)
                  rw [tab_set] at J13
                  clear J12 J22 hb2 c1 f1 hZ2 hX2
                  generalize W.setCell ⟨g1, i, none⟩ (.int .i64 mn) = W3 at *
                  refine Dr.wp_region_plan 16 [] (.q [0, 1, 2, 3, 4, 5, 6, 7, 8, 9, 10, 11, 12, 13, 14, 15] .done) (by kernel_rfl) (by kernel_rfl) ?_
                  have hb4 := hb3.then_below ((ext_drew W3).mono hb3.size)
                  have J14 : IArr W3.drew g1 3 _ := Blk.drew J13
                  have J24 : IArr W3.drew g2 3 _ := Blk.drew J23
                  clear J13 J23 hb3
                  generalize W3.drew = W4 at *
                  have hZ4 := hb4.blk hZ9 (by simp; omega)
                  have hX4 := hb4.blk hX9 (by simp; omega)
                  have q0 := Dr.cell0 (hZ4.cell (i := 5) rfl)
                  have q1 := Dr.cell0 (hX4.cell (i := 2) rfl)
                  have q2 := Dr.cell0 ((World.cell?_of_block (hb4.block b hlt6 (by simp; omega))).trans d1)
                  have q3 := Dr.cell0 (hZ4.cell (i := 4) rfl)
                  have q4 := Dr.cell0 (J14.cell (i := i) (tab_get _ hilt))
                  rw [upd_self] at q4
                  refine Dr.plan_q (l := [_, _, _, _, _, _, _, _, _, _, _, _, _, _, _, _]) rfl (fun K hK => ?_)
                  iterate 16 (go_big_quiet_step (fail))
                  refine wpQuiet_nil (hK _ ?_); clear hK K
                  clear q0 q1 q2 q3 q4
                  have c1 : W4.cell? ⟨g2, i, none⟩ = _ := J24.cell (tab_get _ hilt)
                  have f1 := J24.free i
                  refine Dr.plan_done (tl := [_]) rfl ?_
                  go_upto_region 24 with fail
                  have J25 := J24.set i (wg - mn)
                  have J15 := J14.other (p := ⟨g2, i, none⟩) (by simp; omega) (.int .i64 (wg - mn))
                  have hb5 := hb4.put (p := ⟨g2, i, none⟩) (by simp) (.int .i64 (wg - mn))
                  have hZ5 := hZ4.other (p := ⟨g2, i, none⟩) (by simp; omega) (.int .i64 (wg - mn))
                  rw [tab_set] at J25
                  clear J14 J24 hb4 c1 f1 hZ4 hX4
                  generalize W4.setCell ⟨g2, i, none⟩ (.int .i64 (wg - mn)) = W5' at *
                  have z4 : W5'.cell? ⟨B4, 4, none⟩ = _ := hZ5.cell rfl
                  have y4 : W5'.cell? ⟨g1, i, none⟩ = _ := J15.cell (tab_get _ hilt)
                  rw [upd_self] at y4
                  go_wp2
                  go_roundw
                  case rel => exact ⟨i + 1, upd sh i (wg - mn), by go_num, by omega, by rw [Hpay.out], by rw [Hpay.out]; exact J15, J25, Hsh2, hb5⟩
                  case measure => simp [intOf]; omega
                · have hd1 := wk.done_miss m c i hr
                  have hr' : ((ctr wk i).rank == (c : Int)) = false := by simpa using hr
                  rw [← hd1] at J1 Hsh
                  have Hd1 := Lib.hid hd1
                  clear hd1
                  go_wp2
                  go_roundw
                  case rel => exact ⟨i + 1, sh, by go_num, by omega, by rw [Hd1.out], J1, J2, Hsh, hb⟩
                  case measure => simp [intOf]; omega
              · obtain rfl : i = m := by omega
                rw [wk.done_next] at J1 Hsh
                have Hnx := Lib.hid (wk.done_next i c)
                go_wp2
                go_roundw
                case rel => exact ⟨c + 1, sh, by go_num, by omega, by rw [Hnx.out], J1, J2, Hsh, hb⟩
                case measure => simp [intOf]; omega
          · obtain rfl : c = 101 := by omega
            have hL : wk.done m 101 0 = rankL wk.key m := by
              rw [wk.done_zero]
              exact rfL_eq (fun x h0 h1 => by
                have hx : x.toNat < wk.ctrs.length := by rw [Hm.out]; omega
                have := (Hk.out.cok _ (List.getElem_mem hx)).rk
                unfold Wk.key ctr
                simpa [hx] using this)
            have hP : wk.payL (wk.done m 101 0) = wk.paidTo m := by
              rw [hL]
              have := wk.payL_all
              rwa [Hm.out] at this
            rw [hP] at J1
            rw [hP]
            have hlf : (wk.paidTo m).1 = wk.left := by unfold Wk.left; rw [Hm.out]
            have hpd : (wk.paidTo m).2 = wk.paid := by unfold Wk.paid; rw [Hm.out]
            have hsh : tab m sh = tab m (fun i => (ctr wk i).wage - wk.paid i) := tab_congr (fun i hi => by
              have := Hsh.out (i : Int) (by rw [hL]; exact rank_mem.2 ⟨by omega, by omega⟩)
              rw [hP, hpd] at this
              simpa using this)
            rw [hlf]
            rw [hpd] at J1
            rw [hsh] at J2
            have hleft := Hk.out.left
            have HE := Lib.hid (fun i (hi : i < m) => Hk.out.extra (i := i) (by rw [Hm.out]; exact hi))
            have hb12 := hb
            have J3r : IArr wr g3 3 _ := hb.blk I3 (by simp; omega)
            rw [← parN_zero m wk.extra] at J3r
            have hXr := hb.blk hX9 (by simp; omega)
            have hZr := hb.blk hZ9 (by simp; omega)
            have hYr := hb.blk hY9 (by simp; omega)
            have hBr : Cells wr B 3 Ctr.enc wk.ctrs := by
              by_cases h0 : 0 < m
              · exact cells_bel hB9 hb (fun q hq => by have h7 := hBlt q hq h0; simp; omega)
              · intro i x hi
                have := (List.getElem?_eq_some_iff.1 hi).1
                have := Hm.out
                omega
            have hvr := cells_bel hv9 hb (fun q hq => by have := (hgv q hq); simp; omega)
            have hur := cells_bel hu9 hb (fun q hq => by have := (hgu q hq); simp; omega)
            have hbwr : Below w.heap.size w wr := hbw9.trans (hb.old (by omega) (by simp; omega))
            have hsr := hb.size
            have hnl : ¬ ((101 : Nat) : Int) ≤ 100 := by omega
            clear hX9 hY9 hZ9 hB9 hv9 hu9 hb hbw9 I1 I2 I3 Hsh Hbd H00 hlf hpd hsh hL hP hb12 hlt hc
            have z7 : wr.cell? ⟨B4, 7, none⟩ = _ := hZr.cell rfl
            have f7 := hZr.free 7
            go_upto_region 26 with fail
            have hZ7 := hZr.set 7 (.int .i64 wk.left)
            simp only [List.set] at hZ7
            have hb7 : Dr.Bel [B4, g3] wr _ := (Dr.Bel.refl [B4, g3] wr).put (p := ⟨B4, 7, none⟩) (by simp) (.int .i64 wk.left)
            have J37 : IArr _ g3 3 _ := J3r.other (p := ⟨B4, 7, none⟩) (by simp; omega) (.int .i64 wk.left)
            clear z7 f7 J3r hZr
            generalize wr.setCell ⟨B4, 7, none⟩ (.int .i64 wk.left) = W7 at *
            go_wp2
            go_loopw [11, 12] (fun x _ wq => ∃ i : Nat, x = .int .i64 i ∧ i ≤ m ∧ IArr wq g3 3 (parN m wk.extra i) ∧ Blk wq B4 40 [.slice v1 k v2, .slice u1 k u2, .int .i64 pm, .int .i64 (prem - pm), .slice (some ⟨g1, 0, none⟩) m m, .slice (some ⟨g2, 0, none⟩) m m, .slice (some ⟨g3, 0, none⟩) m m, .int .i64 (wk.left - isum (tab i wk.extra))] ∧ Dr.Bel [B4, g3] wr wq) (fun x _ _ => m - (intOf x).toNat)
            case atStart => exact ⟨0, rfl, by omega, J37, by simpa [tab, isum] using hZ7, hb7⟩
            case round =>
              clear J37 hZ7 hb7
              obtain ⟨i, rfl, hi, J3, hZ, hb⟩ := hrel
              have hXq := hb.blk hXr (by simp; omega)
              have x2 : wr.cell? ⟨w.heap.size, 2, none⟩ = _ := hXq.cell rfl
              by_cases hlt : i < m
              · have hlt' : (i : Int) < (m : Int) := by omega
                have hil : i < wk.ctrs.length := by rw [Hm.out]; exact hlt
                obtain ⟨b, off, rfl, hlt7, d0, d1, d2⟩ := hBr.at3 hil rfl
                have hbB := hBlt b (by simp) (by omega)
                have hci : wk.ctrs[i] = ctr wk i := by simp [ctr, hil]
                have hsh := (Hk.out.cok _ (List.getElem_mem hil)).sh
                rw [hci] at d2 hsh
                have he := HE.out i hlt
                have hxe : wk.left / 1000 * (ctr wk i).share + wk.left % 1000 * (ctr wk i).share / 1000 = wk.extra i := by rw [part_split hleft.1]; rfl
                have hss := isum_tab_succ wk.extra i
                have hsb := isum_tab_bd wk.extra 8000000000000000 i (fun q hq => (HE.out q (by omega)).2)
                generalize (ctr wk i).share = n1 at *
                have p1 := mul_bd (a := wk.left / 1000) (m := 8000000000000) (by omega) (by omega) hsh.1 hsh.2
                have p2 := mul_bd (a := wk.left % 1000) (m := 1000) (by omega) (by omega) hsh.1 hsh.2
                generalize wk.left = lf at *
                generalize isum (tab i wk.extra) = sm at *
                have Hxe := Lib.hid hxe
                have Hss := Lib.hid hss
                clear hxe hss hci d0 d1
                have e2 := (World.cell?_of_block (hb.block b (by omega) (by simp; omega))).trans d2
                have z6 : wr.cell? ⟨B4, 6, none⟩ = _ := hZ.cell rfl
                have c1 : wr.cell? ⟨g3, i, none⟩ = _ := J3.cell (parN_get _ hlt)
                have f1 := J3.free i
                go_upto_region 31 with fail
                rw [Hxe.out]
                have J34 := J3.set i (wk.extra i)
                rw [parN_set] at J34
                have hZ4 := hZ.other (p := ⟨g3, i, none⟩) (by simp; omega) (.int .i64 (wk.extra i))
                have hb4 := hb.put (p := ⟨g3, i, none⟩) (by simp) (.int .i64 (wk.extra i))
                have hc4 := IArr.cell J34 (i := i) (x := wk.extra i) (parN_at _ hlt)
                clear J3 hZ hb z6 c1 f1 hXq x2 e2
                generalize wr.setCell ⟨g3, i, none⟩ (.int .i64 (wk.extra i)) = W8 at *
                refine Dr.wp_region_plan 9 [] (.q [0, 1, 2, 3, 4, 5, 6, 7, 8] .done) (by kernel_rfl) (by kernel_rfl) ?_
                have hb5 := hb4.then_below ((ext_drew W8).mono hb4.size)
                have J35 : IArr W8.drew g3 3 _ := Blk.drew J34
                have hZ5 := hZ4.drew
                have hc5 := cell_ext hc4 (ext_drew W8)
                clear hb4 J34 hZ4 hc4
                generalize W8.drew = W at *
                have q0 := Dr.cell0 (hZ5.cell (i := 7) rfl)
                have q1 := Dr.cell0 (hZ5.cell (i := 6) rfl)
                have q2 := Dr.cell0 hc5
                refine Dr.plan_q (l := [_, _, _, _, _, _, _, _, _]) rfl (fun K hK => ?_)
                iterate 9 (go_big_quiet_step (fail))
                refine wpQuiet_nil (hK _ ?_); clear hK K
                clear q0 q1 q2
                have z7 : W.cell? ⟨B4, 7, none⟩ = _ := hZ5.cell rfl
                have f7 := hZ5.free 7
                refine Dr.plan_done (tl := [_]) rfl ?_
                go_wp2
                go_roundw
                case rel => exact ⟨i + 1, by go_num, by omega, J35.other (by simp; omega) _, by rw [Hss.out, show lf - (sm + wk.extra i) = lf - sm - wk.extra i by omega]; simpa using hZ5.set 7 _, hb5.put (by simp) _⟩
                case measure => simp [intOf]; omega
              · obtain rfl : i = m := by omega
                rw [parN_full] at J3
                have hY9 := hb.blk hYr (by simp; omega)
                have K1 : IArr wr g1 3 _ := hb.blk J1 (by simp; omega)
                have K2 : IArr wr g2 3 _ := hb.blk J2 (by simp; omega)
                have hv9 := cells_bel hvr hb (fun q hq => by have := hgv q hq; simp; omega)
                have hu9 := cells_bel hur hb (fun q hq => by have := hgu q hq; simp; omega)
                have hbw9 : Below w.heap.size w wr := hbwr.trans (hb.old (by omega) (by simp; omega))
                have hs9 := hb.size
                clear hXr hYr hXq J1 J2 hvr hur hbwr hb
                generalize hr : wk.left - isum (tab i wk.extra) = rest at *
                generalize hl : prem - pm = lacks at *
                have z0 : wr.cell? ⟨B4, 0, none⟩ = _ := hZ.cell rfl
                have z1 : wr.cell? ⟨B4, 1, none⟩ = _ := hZ.cell rfl
                have z2 : wr.cell? ⟨B4, 2, none⟩ = _ := hZ.cell rfl
                have z3 : wr.cell? ⟨B4, 3, none⟩ = _ := hZ.cell rfl
                have z4 : wr.cell? ⟨B4, 4, none⟩ = _ := hZ.cell rfl
                have z5 : wr.cell? ⟨B4, 5, none⟩ = _ := hZ.cell rfl
                have z6 : wr.cell? ⟨B4, 6, none⟩ = _ := hZ.cell rfl
                have z7 : wr.cell? ⟨B4, 7, none⟩ = _ := hZ.cell rfl
                have y0 : wr.cell? ⟨w.heap.size + 1, 0, none⟩ = _ := hY9.cell rfl
                have y1 : wr.cell? ⟨w.heap.size + 1, 1, none⟩ = _ := hY9.cell rfl
                have y2 : wr.cell? ⟨w.heap.size + 1, 2, none⟩ = _ := hY9.cell rfl
                have y3 : wr.cell? ⟨w.heap.size + 1, 3, none⟩ = _ := hY9.cell rfl
                have y4 : wr.cell? ⟨w.heap.size + 1, 4, none⟩ = _ := hY9.cell rfl
                have y5 : wr.cell? ⟨w.heap.size + 1, 5, none⟩ = _ := hY9.cell rfl
                have y6 : wr.cell? ⟨w.heap.size + 1, 6, none⟩ = _ := hY9.cell rfl
                have y7 : wr.cell? ⟨w.heap.size + 1, 7, none⟩ = _ := hY9.cell rfl
                have f0 := hY9.free 0
                have f1 := hY9.free 1
                have f2 := hY9.free 2
                have f3 := hY9.free 3
                have f4 := hY9.free 4
                have f5 := hY9.free 5
                have f6 := hY9.free 6
                have f7 := hY9.free 7
                go_wp2
                generalize hWf : World.setCell _ _ _ = Wf
                have hYf := hY9.put_eq [.slice v1 k v2, .slice u1 k u2, .int .i64 pm, .int .i64 lacks, .slice (some ⟨g1, 0, none⟩) i i, .slice (some ⟨g2, 0, none⟩) i i, .slice (some ⟨g3, 0, none⟩) i i, .int .i64 rest] hWf rfl
                have hbf : Dr.Bel [w.heap.size + 1] wr Wf := bel_put_eq [.slice v1 k v2, .slice u1 k u2, .int .i64 pm, .int .i64 lacks, .slice (some ⟨g1, 0, none⟩) i i, .slice (some ⟨g2, 0, none⟩) i i, .slice (some ⟨g3, 0, none⟩) i i, .int .i64 rest] hWf
                clear hWf z0 z1 z2 z3 z4 z5 z6 z7 y0 y1 y2 y3 y4 y5 y6 y7 f0 f1 f2 f3 f4 f5 f6 f7
                have o0 : Wf.cell? ⟨w.heap.size + 1, 0, none⟩ = _ := hYf.cell rfl
                have o1 : Wf.cell? ⟨w.heap.size + 1, 1, none⟩ = _ := hYf.cell rfl
                have o2 : Wf.cell? ⟨w.heap.size + 1, 2, none⟩ = _ := hYf.cell rfl
                have o3 : Wf.cell? ⟨w.heap.size + 1, 3, none⟩ = _ := hYf.cell rfl
                have o4 : Wf.cell? ⟨w.heap.size + 1, 4, none⟩ = _ := hYf.cell rfl
                have o5 : Wf.cell? ⟨w.heap.size + 1, 5, none⟩ = _ := hYf.cell rfl
                have o6 : Wf.cell? ⟨w.heap.size + 1, 6, none⟩ = _ := hYf.cell rfl
                have o7 : Wf.cell? ⟨w.heap.size + 1, 7, none⟩ = _ := hYf.cell rfl
                refine bodyPost_ret (v := .agg #[.slice v1 k v2, .slice u1 k u2, .int .i64 pm, .int .i64 lacks, .slice (some ⟨g1, 0, none⟩) i i, .slice (some ⟨g2, 0, none⟩) i i, .slice (some ⟨g3, 0, none⟩) i i, .int .i64 rest]) (by simp [results, Try.results21, go_sem, o0, o1, o2, o3, o4, o5, o6, o7]) rfl ?_
                have hsf := hbf.size
                have hSS := HS.out
                have hgl : (wk.ctys.map Cty.gross).length = k := by simpa using Hn.out
                have htl : (wk.ctys.map Cty.taxes).length = k := by simpa using Hn.out
                have hrow : ∀ (g : Nat) (f : Nat → Int), W5.heap.size ≤ g → IArr wr g 3 (tab i f) → Cells Wf (some ⟨g, 0, none⟩) 1 encI (tab i f) := fun g f hg hI => by
                  have hI2 : IArr Wf g 3 (tab i f) := hbf.blk hI (by simp; omega)
                  exact hI2.cells
                refine ⟨_, rfl, ⟨v1, v2, u1, u2, some ⟨g1, 0, none⟩, i, some ⟨g2, 0, none⟩, i, some ⟨g3, 0, none⟩, i, ?_, ?_, ?_, ?_, ?_, ?_⟩, hbw9.trans (hbf.old (by omega) (by simp))⟩
                · rw [← hSS]
                  unfold payV Wk.settle
                  simp only [Hm.out, Hprem.out, hppm, hl, hr, tab_len, hgl, htl]
                · rw [← hSS]; exact cells_bel hv9 hbf (fun q hq => by have := (hgv q hq); simp; omega)
                · rw [← hSS]; exact cells_bel hu9 hbf (fun q hq => by have := (hgu q hq); simp; omega)
                · rw [← hSS]; unfold Wk.settle; simp only [Hm.out]; exact hrow g1 _ hg1 K1
                · rw [← hSS]; unfold Wk.settle; simp only [Hm.out]; exact hrow g2 _ hg2 K2
                · rw [← hSS]; unfold Wk.settle; simp only [Hm.out]; exact hrow g3 _ hg3 J3
end Go.Proofs.Ytnjdlhhgnamigaa

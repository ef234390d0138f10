/- The law PurseMore: with more takings nobody is paid less; with one contract more no wage is paid less. -/
import Derived.Test.YtnjdlhhgnamigaaAwB
import Derived.Test.YtnjdlhhgnamigaaSetW
import Derived.Test.YtnjdlhhgnamigaaSetX
import Derived.Test.YtnjdlhhgnamigaaSetH
namespace Go.Proofs.Ytnjdlhhgnamigaa
open Go.RowKit Go.Bs Go.Pu Go.Pl Go.Sort

theorem settle_good2 (wk : Wk) (A B : Option Addr) (n c m d : Nat) (w : World) (hn : wk.ctys.length = n) (hm : wk.ctrs.length = m) (hA : Cells w A 4 Cty.enc wk.ctys) (hB : Cells w B 3 Ctr.enc wk.ctrs) (hok : wk.okB = true) :
    Calls Try.prog 17 #[wkV A n c wk.premium B m d] w fun e w' => ∃ G1 z1 G2 z2 G3 z3 G4 z4 G5 z5, e = .returned (.tuple #[payV (.slice G1 n z1) (.slice G2 n z2) wk.prem (wk.premium - wk.prem) (.slice G3 m z3) (.slice G4 m z4) (.slice G5 m z5) wk.settle.rest, .int .i64 0]) ∧
      PayC w' wk G1 G2 G3 G4 G5 ∧ (∀ k, G3.map (·.block) = some k → w.heap.size ≤ k) ∧ Below w.heap.size w w' := by
  have l1 : wk.settle.gross.length = n := by rw [← hn]; exact List.length_map ..
  have l2 : wk.settle.taxes.length = n := by rw [← hn]; exact List.length_map ..
  have l3 : wk.settle.paid.length = m := by rw [← hm]; exact tab_len ..
  have l4 : wk.settle.short.length = m := by rw [← hm]; exact tab_len ..
  have l5 : wk.settle.extra.length = m := by rw [← hm]; exact tab_len ..
  refine (settle_ok wk A B n c m d w hn hm hA hB hok).mono ?_
  rintro e w1 ⟨v1, v2, v3, v4, v5, rfl, ⟨A1, c1, rfl, -, -, f1, -⟩, ⟨A2, c2, rfl, -, -, f2, -⟩, ⟨A3, c3, rfl, -, -, f3, g3⟩, ⟨A4, c4, rfl, -, -, f4, -⟩, ⟨A5, c5, rfl, -, -, f5, -⟩, hb⟩
  rw [l1, l2, l3, l4, l5]
  exact ⟨A1, c1, A2, c2, A3, c3, A4, c4, A5, c5, rfl, ⟨f1, f2, f3, f4, f5⟩, fun k hk => (g3 k hk).1, hb⟩
theorem et23 : ElemT Try.prog 23 55 3 24 := ElemT.mk (z := .agg #[.int .i64 0, .int .i64 0, .int .i64 0]) Try.underlying23 (by kernel_rfl) rfl
theorem more_push {WC X9 : World} {base g q c9 : Nat} {L : List Ctr} {a b v : Value} (hT9 : Blk X9 WC.heap.size 25 [a, b, v]) (ho9 : OwnL X9 base 55 3 Ctr.enc (.slice (some ⟨g, 0, none⟩) q c9) L) (hTl : WC.heap.size < base) (hb : Below WC.heap.size WC X9) (u : Value) :
    Blk (X9.setCell ⟨WC.heap.size, 2, none⟩ u) WC.heap.size 25 [a, b, u] ∧ Cells (X9.setCell ⟨WC.heap.size, 2, none⟩ u) (some ⟨g, 0, none⟩) 3 Ctr.enc L ∧ Below WC.heap.size WC (X9.setCell ⟨WC.heap.size, 2, none⟩ u) := by
  refine ⟨by simpa using hT9.set 2 u, ?_, hb.trans ((Dr.Bel.store (M := [WC.heap.size]) (p := ⟨WC.heap.size, 2, none⟩) (by simp) u).old (by have := hT9.lt; omega) (by simp))⟩
  obtain ⟨A, c, e, -, -, hC⟩ := (ho9.setCell (p := ⟨WC.heap.size, 2, none⟩) hTl u).cells ctr_len
  rw [Value.slice.injEq] at e
  rw [e.1]
  exact hC
theorem rest_bd {w : Wk} (h : w.ok) : w.settle.rest ≤ 9000000000000000 := by
  have e : w.settle.rest = w.left - isum (tab w.ctrs.length w.extra) := rfl
  have := isum_nonneg (l := tab w.ctrs.length w.extra) (fun y hy => by obtain ⟨i, hi, rfl⟩ := mem_tab hy; exact (h.extra hi).2.1)
  have := h.left
  omega
set_option maxRecDepth 100000 in
set_option maxHeartbeats 8000000 in
theorem more_law (wk : Wk) (A B : Option Addr) (n c m d : Nat) (x z : Int) (k3 : Ctr) (w : World) (hn : wk.ctys.length = n) (hm : wk.ctrs.length = m) (hA : Cells w A 4 Cty.enc wk.ctys) (hB : Cells w B 3 Ctr.enc wk.ctrs) (h1 : n ≤ 9223372036854775807) (h2 : m ≤ 9223372036854775807)
    (hx : 0 ≤ x ∧ x ≤ 255) (hz : 0 ≤ z ∧ z ≤ 4294967295) :
    Calls Try.prog 7 #[wkV A n c wk.premium B m d, .int .u8 x, .int .u32 z, Ctr.val k3] w fun e w' => e = .returned (.bool true) ∧ Below w.heap.size w w' := by
  have hbw0 := (ext_alloc w (.cells #[.slice A n c, .int .i64 wk.premium, .slice B m d] 25)).trans ((ext_alloc _ (.cells #[.int .i64 k3.rank, .int .i64 k3.wage, .int .i64 k3.share] 55)).mono (by simp))
  have hX0 := (Blk.new w 25 [.slice A n c, .int .i64 wk.premium, .slice B m d]).alloc (.cells #[.int .i64 k3.rank, .int .i64 k3.wage, .int .i64 k3.share] 55)
  have hK0 := Blk.new (w.alloc (.cells #[.slice A n c, .int .i64 wk.premium, .slice B m d] 25)) 55 [.int .i64 k3.rank, .int .i64 k3.wage, .int .i64 k3.share]
  rw [World.size_alloc] at hK0
  have hsz0 : w.heap.size + 2 ≤ ((w.alloc (.cells #[.slice A n c, .int .i64 wk.premium, .slice B m d] 25)).alloc (.cells #[.int .i64 k3.rank, .int .i64 k3.wage, .int .i64 k3.share] 55)).heap.size := by simp
  have hA0 := hA.ext hbw0
  have hB0 := hB.ext hbw0
  have CW := Lib.hid (fun W h1 h2 hA hB => Week_put wk A B n c m d W hn hm h1 h2 hA hB)
  have CO := Lib.hid (fun W h0 h1 h2 hA hB => Week_own2 wk A B n c m d W hn hm h0 h1 h2 hA hB)
  have CS := Lib.hid (fun A B c d W hA hB hok => settle_good2 wk A B n c m d W hn hm hA hB hok)
  have CR := Lib.hid (fun W hA hB => RightWeek_big wk A B n c m d W hn hm h1 h2 hA hB)
  have Hn := Lib.hid hn
  have Hm := Lib.hid hm
  clear hn hm
  unfold wkV at *
  unfold payV at *
  unfold Ctr.val
  go_enter Try.func7, Try.ntmps7
  go_upto_region 1 with fail
  change Blk ((w.alloc (.cells #[.slice A n c, .int .i64 wk.premium, .slice B m d] 25)).alloc (.cells #[.int .i64 k3.rank, .int .i64 k3.wage, .int .i64 k3.share] 55)) _ _ _ at hX0
  change Blk ((w.alloc (.cells #[.slice A n c, .int .i64 wk.premium, .slice B m d] 25)).alloc (.cells #[.int .i64 k3.rank, .int .i64 k3.wage, .int .i64 k3.share] 55)) _ _ _ at hK0
  generalize (w.alloc (.cells #[.slice A n c, .int .i64 wk.premium, .slice B m d] 25)).alloc (.cells #[.int .i64 k3.rank, .int .i64 k3.wage, .int .i64 k3.share] 55) = W0 at *
  have x0 : W0.cell? ⟨w.heap.size, 0, none⟩ = _ := hX0.cell (i := 0) rfl
  have x1 : W0.cell? ⟨w.heap.size, 1, none⟩ = _ := hX0.cell (i := 1) rfl
  have x2 : W0.cell? ⟨w.heap.size, 2, none⟩ = _ := hX0.cell (i := 2) rfl
  go_wp2_with fail
  refine (CR.out _ hA0 hB0).mono ?_; rintro e W1 ⟨rfl, hb1⟩
  have hbw1 := ext_trans hbw0 hb1
  have hX1 := hX0.ext hb1
  have hK1 := hK0.ext hb1
  have hA1 := hA0.ext hb1
  have hB1 := hB0.ext hb1
  have hsz1 := Nat.le_trans hsz0 hb1.size
  clear hbw0 hsz0 hb1 hX0 hK0 hA0 hB0
  clear CR x0 x1 x2
  cases hok : wk.okB
  · go_wp2_with fail
    refine (awake_any _).mono ?_; rintro e wz ⟨rfl, hbz⟩
    go_wp2
    go_ret
    exact ⟨rfl, ext_trans hbw1 hbz⟩
  have hk := (wk.okB_iff).1 hok
  have hn8 : n ≤ 8 := by rw [← Hn.out]; exact hk.n.2
  have hn1 : 1 ≤ n := by rw [← Hn.out]; exact hk.n.1
  have hm20 : m ≤ 20 := by rw [← Hm.out]; exact hk.m
  have CS1 := Lib.hid (fun A B c d W hA hB => CS.out A B c d W hA hB hok)
  clear CS
  have x0 : W1.cell? ⟨w.heap.size, 0, none⟩ = _ := hX1.cell (i := 0) rfl
  have x1 : W1.cell? ⟨w.heap.size, 1, none⟩ = _ := hX1.cell (i := 1) rfl
  have x2 : W1.cell? ⟨w.heap.size, 2, none⟩ = _ := hX1.cell (i := 2) rfl
  go_wp2_with fail
  refine (CW.out _ (by omega) (by omega) hA1 hB1).mono ?_; rintro e W2 ⟨A2, c2, B2, d2, rfl, fa, fb, -, -, hb2⟩
  have hbw2 := ext_trans hbw1 hb2
  have hX2 := hX1.ext hb2
  have hK2 := hK1.ext hb2
  have hA2 := hA1.ext hb2
  have hB2 := hB1.ext hb2
  have hsz2 := Nat.le_trans hsz1 hb2.size
  clear hbw1 hsz1 hb2 hX1 hK1 hA1 hB1
  clear CW x0 x1 x2
  go_wp2_with fail
  have hszG := hsz2
  refine (CS1.out A2 B2 c2 d2 _ fa fb).mono ?_; rintro e W3 ⟨G1, z1, G2, z2, G3, z3, G4, z4, G5, z5, rfl, hP3, hg3, hb3⟩
  have hbw3 := ext_trans hbw2 hb3
  have hX3 := hX2.ext hb3
  have hK3 := hK2.ext hb3
  have hA3 := hA2.ext hb3
  have hB3 := hB2.ext hb3
  have hsz3 := Nat.le_trans hsz2 hb3.size
  clear hbw2 hsz2 hb3 hX2 hK2 hA2 hB2
  clear CS1 fa fb
  have hprm := hk.pr
  have hpr := hk.prem
  have hr0 := hk.rest
  have hrb := rest_bd hk
  generalize hprem : wk.prem = prem at *
  generalize hlack : wk.premium - prem = lack at *
  generalize hrest : wk.settle.rest = rest at *
  have Hprem := Lib.hid hprem
  have Hrest := Lib.hid hrest
  have Hlack := Lib.hid hlack
  clear hprem hrest hlack
  have hszY := hsz3
  have hY4 := Blk.new W3 29 [.slice G1 n z1, .slice G2 n z2, .int .i64 prem, .int .i64 lack, .slice G3 m z3, .slice G4 m z4, .slice G5 m z5, .int .i64 rest]
  have hal := ext_alloc W3 (.cells #[.slice G1 n z1, .slice G2 n z2, .int .i64 prem, .int .i64 lack, .slice G3 m z3, .slice G4 m z4, .slice G5 m z5, .int .i64 rest] 29)
  have hbw4 := ext_trans hbw3 hal
  have hX4 := hX3.ext hal
  have hK4 := hK3.ext hal
  have hA4 := hA3.ext hal
  have hB4 := hB3.ext hal
  have hP4 := hP3.ext hal
  have hsz4 := Nat.le_trans hsz3 hal.size
  clear hbw3 hsz3 hal hX3 hK3 hA3 hB3 hP3
  go_upto_region 4 with fail
  have hYg : w.heap.size + 2 ≤ W3.heap.size := hszY
  change Blk (W3.alloc (.cells #[.slice G1 n z1, .slice G2 n z2, .int .i64 prem, .int .i64 lack, .slice G3 m z3, .slice G4 m z4, .slice G5 m z5, .int .i64 rest] 29)) _ _ _ at hY4
  generalize W3.heap.size = Y at *
  generalize W3.alloc (.cells #[.slice G1 n z1, .slice G2 n z2, .int .i64 prem, .int .i64 lack, .slice G3 m z3, .slice G4 m z4, .slice G5 m z5, .int .i64 rest] 29) = W4 at *
  have x0 : W4.cell? ⟨w.heap.size, 0, none⟩ = _ := hX4.cell (i := 0) rfl
  have x1 : W4.cell? ⟨w.heap.size, 1, none⟩ = _ := hX4.cell (i := 1) rfl
  have x2 : W4.cell? ⟨w.heap.size, 2, none⟩ = _ := hX4.cell (i := 2) rfl
  go_wp2_with fail
  refine (CO.out _ hn1 (by omega) (by omega) hA4 hB4).mono ?_; rintro e W5 ⟨g5, c5, B5, d5, rfl, fo5, fb5, hg5, hne5, hb5⟩
  have hlt5 := (fo5.lt (k := g5) rfl).2
  have hs5 := hb5.size
  clear CO x0 x1 x2
  have hZ6 := Blk.new W5 36 [.slice (some ⟨g5, 0, none⟩) n c5, .int .i64 wk.premium, .slice B5 m d5]
  have hal := ext_alloc W5 (.cells #[.slice (some ⟨g5, 0, none⟩) n c5, .int .i64 wk.premium, .slice B5 m d5] 36)
  have hb6 := ext_trans hb5 hal
  have fo6 := fo5.ext hal
  have fb6 := fb5.ext hal
  have hs6 : W5.heap.size ≤ (W5.alloc (.cells #[.slice (some ⟨g5, 0, none⟩) n c5, .int .i64 wk.premium, .slice B5 m d5] 36)).heap.size := hal.size
  clear hb5 hal fo5 fb5
  go_upto_region 5 with fail
  change Blk (W5.alloc (.cells #[.slice (some ⟨g5, 0, none⟩) n c5, .int .i64 wk.premium, .slice B5 m d5] 36)) _ _ _ at hZ6
  generalize hZe : W5.heap.size = Z at *
  clear hZe
  generalize W5.alloc (.cells #[.slice (some ⟨g5, 0, none⟩) n c5, .int .i64 wk.premium, .slice B5 m d5] 36) = W6 at *
  obtain ⟨k, hkm, hkn⟩ : ∃ k : Nat, Int.tmod x n = (k : Int) ∧ k < n := ⟨x.toNat % n, by rw [Int.tmod_eq_emod_of_nonneg hx.1, Int.natCast_emod, Int.toNat_of_nonneg hx.1], Nat.mod_lt _ (by omega)⟩
  have hn0 : ¬ (n : Int) = 0 := by omega
  have q0 : W6.cell? ⟨Z, 0, none⟩ = _ := hZ6.cell (i := 0) rfl
  go_upto_region 6 with fail
  clear q0
  have kc : k < wk.ctys.length := by rw [Hn.out]; exact hkn
  have hcy : (wk.ctys.getD k default).ok := hk.yok _ (by rw [List.getD_eq_getElem?_getD, List.getElem?_eq_getElem kc]; exact List.getElem_mem kc)
  have htk := hcy.tk
  have Hgd := Lib.hid (show wk.ctys[k] = wk.ctys.getD k default by simp [kc])
  generalize htkv : (wk.ctys.getD k default).takings = tk at *
  have Htk := Lib.hid htkv
  clear htkv hcy
  have hkn' : (k : Int) < n := by omega
  refine Dr.wp_region_plan 15 [] (.q [0, 1, 2, 3, 4, 5, 6, 7, 8, 9, 10, 11, 12, 13, 14] .done) (by kernel_rfl) (by kernel_rfl) ?_
  have hdr : Below W6.heap.size W6 W6.drew := (Below.refl _ _).drew
  have hb7 := ext_trans hb6 hdr
  have fo7 := fo6.ext hdr
  have fb7 := fb6.ext hdr
  have hZ7 := hZ6.ext hdr
  have hs7 : W6.heap.size ≤ W6.drew.heap.size := hdr.size
  clear hb6 hdr fo6 fb6 hZ6
  generalize World.drew _ = W7 at *
  obtain ⟨A7, q7, hv7, -, -, hC7⟩ := fo7.cells cty_len
  obtain ⟨rfl, rfl⟩ : A7 = some ⟨g5, 0, none⟩ ∧ c5 = q7 := by have h := hv7; rw [Value.slice.injEq] at h; exact ⟨h.1.symm, h.2.2⟩
  clear hv7
  obtain ⟨b7, o7, e7, -, t0, -, -, -⟩ := hC7.at4 kc rfl
  obtain ⟨rfl, rfl⟩ : g5 = b7 ∧ 0 = o7 := by simpa [eq_comm] using e7
  rw [Hgd.out, Htk.out, Nat.zero_add] at t0
  have fz := fo7.frozen (k * 4)
  have u0 := Dr.cell0 t0
  have z0 := Dr.cell0 (hZ7.cell (i := 0) rfl)
  refine Dr.plan_q (l := [_, _, _, _, _, _, _, _, _, _, _, _, _, _, _]) rfl (fun K hK => ?_)
  iterate 15 (go_big_quiet_step (fail))
  refine wpQuiet_nil (hK _ ?_); clear hK K
  refine Dr.plan_done rfl ?_
  clear u0 z0
  go_upto_region 7 with fail
  rw [show (if tk + z < 1000000000000 then tk + z else 1000000000000) = min 1000000000000 (tk + z) by split <;> omega]
  have hown8 := OwnL.setAt cty_len fo7 (i := k) (j := 0) kc (by omega) ((wk.ctys.getD k default).more z) (.int .i64 (min 1000000000000 (tk + z))) (by rw [Hgd.out, ← Htk.out]; rfl)
  rw [Nat.add_zero] at hown8
  have hbl8 : Dr.Bel [g5] W7 (W7.setCell ⟨g5, k * 4, none⟩ (.int .i64 (min 1000000000000 (tk + z)))) := Dr.Bel.store (by simp) _
  generalize W7.setCell ⟨g5, k * 4, none⟩ (.int .i64 (min 1000000000000 (tk + z))) = W8 at *
  obtain ⟨A8, q8, hv8, -, -, hC8⟩ := hown8.cells cty_len
  obtain rfl : A8 = some ⟨g5, 0, none⟩ := by have h := hv8; rw [Value.slice.injEq] at h; exact h.1.symm
  have hb8 : Below W4.heap.size W4 W8 := hb7.trans (hbl8.old (by have := hb7.size; omega) (by simp; omega))
  have fb8 := cells_bel fb7 hbl8 (fun j hj => by have := hne5 j hj; simp; omega)
  have hZ8 := hbl8.blk hZ7 (by simp; omega)
  have hn2 : (wk.more k z).ctys.length = n := by show (wk.ctys.set _ _).length = n; rw [List.length_set]; exact Hn.out
  have hok2 : (wk.more k z).okB = true := (Wk.okB_iff _).2 (hk.more kc hz.1)
  have CS2 := Lib.hid (fun A B c d W hA hB => settle_good (wk.more k z) A B n c m d W hn2 Hm.out hA hB hok2)
  unfold wkV payV at CS2
  have e2 : (wk.more k z).premium = wk.premium := rfl
  have hC8' : Cells W8 (some ⟨g5, 0, none⟩) 4 Cty.enc (wk.more k z).ctys := hC8
  have fb8' : Cells W8 B5 3 Ctr.enc (wk.more k z).ctrs := fb8
  rw [e2] at CS2
  clear hown8 hbl8 hv8 hC8 hC7 e7 t0 fz fo7 fb7 fb8 hb7 hZ7 Hgd Htk htk hne5 hlt5 hg5 hs5 hs6 hs7 hn0 hkm e2 hkn'
  have x0 : W8.cell? ⟨Z, 0, none⟩ = _ := hZ8.cell (i := 0) rfl
  have x1 : W8.cell? ⟨Z, 1, none⟩ = _ := hZ8.cell (i := 1) rfl
  have x2 : W8.cell? ⟨Z, 2, none⟩ = _ := hZ8.cell (i := 2) rfl
  go_wp2_with fail
  refine (CS2.out _ _ _ _ _ hC8' fb8').mono ?_; rintro e W9 ⟨H1, y1, H2, y2, H3, y3, H4, y4, H5, y5, rfl, hQ9, hb9⟩
  have hb49 := ext_trans hb8 hb9
  clear CS2 hC8' fb8' hZ8 hb8 hb9 x0 x1 x2
  have hp2 := hk.more_prem kc hz.1
  have hr2 := hk.more_rest kc hz.1
  have hk2 := hk.more kc hz.1
  have hrb2 := rest_bd hk2
  have hpm2 := hk2.prem
  rw [Hprem.out] at hp2
  rw [Hrest.out, Hm.out] at hr2
  generalize hprem2 : (wk.more k z).prem = prem2 at *
  generalize hlack2 : wk.premium - prem2 = lack2 at *
  generalize hrest2 : (wk.more k z).settle.rest = rest2 at *
  clear hprem2 hlack2 hrest2
  have hVA := Blk.new W9 29 [.slice H1 n y1, .slice H2 n y2, .int .i64 prem2, .int .i64 lack2, .slice H3 m y3, .slice H4 m y4, .slice H5 m y5, .int .i64 rest2]
  have hal := ext_alloc W9 (.cells #[.slice H1 n y1, .slice H2 n y2, .int .i64 prem2, .int .i64 lack2, .slice H3 m y3, .slice H4 m y4, .slice H5 m y5, .int .i64 rest2] 29)
  have hb4A := ext_trans hb49 hal
  have hszA := Nat.le_trans hsz4 hb4A.size
  have hQA := hQ9.ext hal
  clear hb49 hQ9 hal
  go_upto_region 8 with fail
  change Blk (W9.alloc (.cells #[.slice H1 n y1, .slice H2 n y2, .int .i64 prem2, .int .i64 lack2, .slice H3 m y3, .slice H4 m y4, .slice H5 m y5, .int .i64 rest2] 29)) _ _ _ at hVA
  generalize W9.heap.size = V at *
  generalize W9.alloc (.cells #[.slice H1 n y1, .slice H2 n y2, .int .i64 prem2, .int .i64 lack2, .slice H3 m y3, .slice H4 m y4, .slice H5 m y5, .int .i64 rest2] 29) = WA at *
  have hbwA := ext_trans hbw4 hb4A
  have hXA := hX4.ext hb4A
  have hKA := hK4.ext hb4A
  have hPA := hP4.ext hb4A
  have hYA := hY4.ext hb4A
  clear hbw4 hX4 hK4 hA4 hB4 hP4 hY4 hb4A hsz4
  have x2 : WA.cell? ⟨w.heap.size, 2, none⟩ = _ := hXA.cell (i := 2) rfl
  have y0 : WA.cell? ⟨Y, 0, none⟩ = _ := hYA.cell (i := 0) rfl
  have y1 : WA.cell? ⟨Y, 1, none⟩ = _ := hYA.cell (i := 1) rfl
  have y2 : WA.cell? ⟨Y, 2, none⟩ = _ := hYA.cell (i := 2) rfl
  have y3 : WA.cell? ⟨Y, 3, none⟩ = _ := hYA.cell (i := 3) rfl
  have y4 : WA.cell? ⟨Y, 4, none⟩ = _ := hYA.cell (i := 4) rfl
  have y5 : WA.cell? ⟨Y, 5, none⟩ = _ := hYA.cell (i := 5) rfl
  have y6 : WA.cell? ⟨Y, 6, none⟩ = _ := hYA.cell (i := 6) rfl
  have y7 : WA.cell? ⟨Y, 7, none⟩ = _ := hYA.cell (i := 7) rfl
  have v0 : WA.cell? ⟨V, 0, none⟩ = _ := hVA.cell (i := 0) rfl
  have v1 : WA.cell? ⟨V, 1, none⟩ = _ := hVA.cell (i := 1) rfl
  have v2 : WA.cell? ⟨V, 2, none⟩ = _ := hVA.cell (i := 2) rfl
  have v3 : WA.cell? ⟨V, 3, none⟩ = _ := hVA.cell (i := 3) rfl
  have v4 : WA.cell? ⟨V, 4, none⟩ = _ := hVA.cell (i := 4) rfl
  have v5 : WA.cell? ⟨V, 5, none⟩ = _ := hVA.cell (i := 5) rfl
  have v6 : WA.cell? ⟨V, 6, none⟩ = _ := hVA.cell (i := 6) rfl
  have v7 : WA.cell? ⟨V, 7, none⟩ = _ := hVA.cell (i := 7) rfl
  have g1 : ¬ prem2 < prem := by omega
  have g2 : ¬ rest2 < rest - (m : Int) := by omega
  go_wp2
  clear x2 y0 y1 y2 y3 y4 y5 y6 y7 v0 v1 v2 v3 v4 v5 v6 v7 g1 g2
  go_loopw [15] (fun i wr => ∃ (j : Nat), i = .int .i64 j ∧ j ≤ m ∧ Below WA.heap.size WA wr) (fun i _ => m - (intOf i).toNat)
  case atStart => exact ⟨0, rfl, by omega, Below.refl _ _⟩
  case round =>
    obtain ⟨j, rfl, hjm, hb⟩ := hrel
    have xx : wr.cell? ⟨w.heap.size, 2, none⟩ = _ := (hXA.ext hb).cell (i := 2) rfl
    by_cases hlt : j < m
    · have hlt' : (j : Int) < m := by omega
      have jc : j < wk.ctrs.length := by rw [Hm.out]; exact hlt
      have jc2 : j < (wk.more k z).ctrs.length := jc
      have hq1 := (hk.more_paid kc hz.1).2 j
      have hq2 := hk.more_extra kc hz.1 jc
      go_upto_region 13 with fail
      clear xx
      refine Dr.wp_region_plan 24 [] (.q [0, 1, 2, 3, 4, 5, 6, 7, 8, 9, 10, 11, 12, 13, 14, 15, 16, 17, 18, 19, 20, 21, 22, 23] .done) (by kernel_rfl) (by kernel_rfl) ?_
      have hb2 := hb.drew
      clear hb
      generalize World.drew _ = U at *
      obtain ⟨o1, p1, rfl, e1⟩ := (hPA.ext hb2).at_p jc
      obtain ⟨o2, p2, rfl, e2⟩ := (hPA.ext hb2).at_x jc
      obtain ⟨o3, p3, rfl, e3⟩ := (hQA.ext hb2).at_p jc2
      obtain ⟨o4, p4, rfl, e4⟩ := (hQA.ext hb2).at_x jc2
      generalize wk.paid j = a1 at *
      generalize wk.extra j = a2 at *
      generalize (wk.more k z).paid j = a3 at *
      generalize (wk.more k z).extra j = a4 at *
      have q1 : ¬ a3 < a1 := by omega
      have q2 : ¬ a4 < a2 := by omega
      have r1 := Dr.cell0 e1
      have r2 := Dr.cell0 e2
      have r3 := Dr.cell0 e3
      have r4 := Dr.cell0 e4
      have y4 := Dr.cell0 ((hYA.ext hb2).cell (i := 4) rfl)
      have y6 := Dr.cell0 ((hYA.ext hb2).cell (i := 6) rfl)
      have v4 := Dr.cell0 ((hVA.ext hb2).cell (i := 4) rfl)
      have v6 := Dr.cell0 ((hVA.ext hb2).cell (i := 6) rfl)
      refine Dr.plan_q (l := [_, _, _, _, _, _, _, _, _, _, _, _, _, _, _, _, _, _, _, _, _, _, _, _]) rfl (fun K hK => ?_)
      iterate 24 (go_big_quiet_step (fail))
      refine wpQuiet_nil (hK _ ?_); clear hK K
      refine Dr.plan_end rfl ?_
      clear r1 r2 r3 r4 y4 y6 v4 v6
      go_wp2
      go_roundw
      case rel => exact ⟨j + 1, by go_num, by omega, hb2⟩
      case measure => simp [intOf]; omega
    · obtain rfl : m = j := by omega
      have hbwB := ext_trans hbwA hb
      have hXB := hXA.ext hb
      have hKB := hKA.ext hb
      have hPB := hPA.ext hb
      have hYB := hYA.ext hb
      have hszB := Nat.le_trans hszA hb.size
      clear hbwA hXA hKA hPA hYA hVA hQA hb
      generalize wr = WB at *
      have k0 : WB.cell? ⟨w.heap.size + 1, 0, none⟩ = _ := hKB.cell (i := 0) rfl
      have kf := hKB.free 0
      go_upto_region 16 with fail
      clear xx k0 kf
      have hKC := hKB.set 0 (.int .i64 100)
      have hblC : Dr.Bel [w.heap.size + 1] WB (WB.setCell ⟨w.heap.size + 1, 0, none⟩ (.int .i64 100)) := Dr.Bel.store (by simp) _
      generalize WB.setCell ⟨w.heap.size + 1, 0, none⟩ (.int .i64 100) = WC at *
      simp only [List.set_cons_zero] at hKC
      have hbwC : Below w.heap.size w WC := hbwB.trans (hblC.old (by omega) (by simp))
      have hXC := hblC.blk hXB (by simp)
      have hYC := hblC.blk hYB (by simp; omega)
      have hpC := cells_bel hPB.p hblC (fun q hq => by have := hg3 q hq; simp; omega)
      have hAC := hA.ext hbwC
      have hBC := hB.ext hbwC
      clear hblC hKB hXB hPB hYB hbwB hszB hA hB
      have x0 : WC.cell? ⟨w.heap.size, 0, none⟩ = _ := hXC.cell (i := 0) rfl
      have x1 : WC.cell? ⟨w.heap.size, 1, none⟩ = _ := hXC.cell (i := 1) rfl
      have x2 : WC.cell? ⟨w.heap.size, 2, none⟩ = _ := hXC.cell (i := 2) rfl
      have hTD := Blk.new WC 25 [.slice A n c, .int .i64 wk.premium, .slice B m d]
      have hal := ext_alloc WC (.cells #[.slice A n c, .int .i64 wk.premium, .slice B m d] 25)
      go_upto_region 17 with fail
      clear x0 x1 x2
      change Blk (WC.alloc (.cells #[.slice A n c, .int .i64 wk.premium, .slice B m d] 25)) _ _ _ at hTD
      generalize WC.alloc (.cells #[.slice A n c, .int .i64 wk.premium, .slice B m d] 25) = WD at *
      go_cut [] (fun W => ∃ B9 d9, Blk W WC.heap.size 25 [.slice A n c, .int .i64 wk.premium, .slice B9 (m + 1) d9] ∧ Cells W B9 3 Ctr.enc (wk.plus ⟨100, k3.wage, k3.share⟩).ctrs ∧ Below WC.heap.size WC W)
      case first =>
        refine Dr.wp_region_plan 5 [] (.q [0, 1, 3] (.e2 2 (.e1 4 .done) 4 (.e1 2 .done))) (by kernel_rfl) (by kernel_rfl) ?_
        have hbE := hal.drew
        have hTE : Blk WD.drew WC.heap.size 25 _ := hTD.drew
        have hXE := hXC.ext hbE
        have hKE := hKC.ext hbE
        have hBE := hBC.ext hbE
        clear hal hTD
        generalize World.drew _ = WE at *
        have hTl := hTE.lt
        have x2 := Dr.cell0 (hXE.cell (i := 2) rfl)
        have k0 := Dr.cell0 (hKE.cell (i := 0) rfl)
        have k1 := Dr.cell0 (hKE.cell (i := 1) rfl)
        have k2 := Dr.cell0 (hKE.cell (i := 2) rfl)
        refine Dr.plan_q (l := [_, _, _]) rfl (fun K hK => ?_)
        iterate 3 (go_big_quiet_step (fail))
        refine wpQuiet_nil (hK _ ?_); clear hK K
        clear x2 k0 k1 k2
        refine Dr.plan_e2 ?_ ?_
        · refine Dr.plan_e rfl (by rfl) (fun K hK => ?_)
          refine wp_app_rows Ctr.enc 23 55 3 24 et23 (by decide) (by decide) ctr_len ctr_one _ _ rfl WE.heap.size (.slice none 0 0) [] rfl OwnL.nil B m d wk.ctrs Hm.out rfl hBE (by simp; omega) (Nat.le_refl _) ?_
          intro v1 X1 ho1 hbl1 hgr1 hat1
          refine hK _ _ (.of hbl1) ?_; clear hK K
          go_frame
          rw [List.nil_append] at ho1
          clear hgr1 hat1
          refine Dr.plan_e rfl (by rfl) (fun K hK => ?_)
          go_wp2_with fail
          refine hK _ _ (.of (ext_alloc _ _)) ?_; clear hK K
          have hE := Blk.new X1 55 [.int .i64 100, .int .i64 k3.wage, .int .i64 k3.share]
          have ho2 := ho1.alloc (.cells #[.int .i64 100, .int .i64 k3.wage, .int .i64 k3.share] 55)
          have hb2 := hbl1.trans ((ext_alloc X1 (.cells #[.int .i64 100, .int .i64 k3.wage, .int .i64 k3.share] 55)).mono hbl1.size)
          change Blk (X1.alloc (.cells #[.int .i64 100, .int .i64 k3.wage, .int .i64 k3.share] 55)) _ _ _ at hE
          generalize X1.alloc (.cells #[.int .i64 100, .int .i64 k3.wage, .int .i64 k3.share] 55) = X2 at *
          refine Dr.plan_done (tl := [_, _, _]) rfl ?_
          have hT2 := hTE.ext hb2
          go_wp2_with (at_builtin; refine app1 Ctr.enc 23 55 3 24 et23 (by decide) (by decide) ctr_len ctr_one rfl _ _ rfl WE.heap.size _ wk.ctrs rfl ho2 X1.heap.size rfl ⟨100, k3.wage, k3.share⟩ (fun j u h => hE.cell h) (by rw [Hm.out]; omega) hb2.size ?_; intro g9 c9 X9 ho9 hbl9 _ _; have hT9 := hT2.under hbl9 hTl; have f2 := hT9.free 2; have t2 : X9.cell? ⟨WC.heap.size, 2, none⟩ = _ := hT9.cell (i := 2) rfl)
          go_meet
          case rel =>
            have hbX : Below WC.heap.size WC X9 := ext_trans hbE (hb2.trans hbl9)
            rw [Hm.out] at ho9 ⊢
            exact ⟨some ⟨g9, 0, none⟩, c9, more_push hT9 ho9 hTl hbX _⟩
        · refine Dr.plan_e rfl (by rfl) (fun K hK => ?_)
          go_wp2_with fail
          refine hK _ _ (.of (ext_alloc _ _)) ?_; clear hK K
          have hE0 := Blk.new WE 55 [.int .i64 100, .int .i64 k3.wage, .int .i64 k3.share]
          have hb1 := ext_alloc WE (.cells #[.int .i64 100, .int .i64 k3.wage, .int .i64 k3.share] 55)
          have hB1 := hBE.ext hb1
          change Blk (WE.alloc (.cells #[.int .i64 100, .int .i64 k3.wage, .int .i64 k3.share] 55)) _ _ _ at hE0
          generalize WE.alloc (.cells #[.int .i64 100, .int .i64 k3.wage, .int .i64 k3.share] 55) = X1 at *
          refine Dr.plan_e rfl (by rfl) (fun K hK => ?_)
          refine wp_app_rows Ctr.enc 23 55 3 24 et23 (by decide) (by decide) ctr_len ctr_one _ _ rfl X1.heap.size (.slice none 0 0) [] rfl OwnL.nil B m d wk.ctrs Hm.out rfl hB1 (by simp; omega) (Nat.le_refl _) ?_
          intro v1 X2 ho1 hbl1 hgr1 hat1
          refine hK _ _ (.of hbl1) ?_; clear hK K
          go_frame
          rw [List.nil_append] at ho1
          clear hgr1 hat1
          have ho2 := own_low ho1 hb1.size
          have hE := hE0.ext hbl1
          have hb2 := ext_trans hb1 hbl1
          refine Dr.plan_done (tl := [_, _, _]) rfl ?_
          have hT2 := hTE.ext hb2
          go_wp2_with (at_builtin; refine app1 Ctr.enc 23 55 3 24 et23 (by decide) (by decide) ctr_len ctr_one rfl _ _ rfl WE.heap.size _ wk.ctrs rfl ho2 WE.heap.size rfl ⟨100, k3.wage, k3.share⟩ (fun j u h => hE.cell h) (by rw [Hm.out]; omega) hb2.size ?_; intro g9 c9 X9 ho9 hbl9 _ _; have hT9 := hT2.under hbl9 hTl; have f2 := hT9.free 2; have t2 : X9.cell? ⟨WC.heap.size, 2, none⟩ = _ := hT9.cell (i := 2) rfl)
          go_meet
          case rel =>
            have hbX : Below WC.heap.size WC X9 := ext_trans hbE (hb2.trans hbl9)
            rw [Hm.out] at ho9 ⊢
            exact ⟨some ⟨g9, 0, none⟩, c9, more_push hT9 ho9 hTl hbX _⟩
      case rest =>
        obtain ⟨B9, d9, hTF, hCF, hbF⟩ := hcut
        have hbwF := ext_trans hbwC hbF
        have hXF := hXC.ext hbF
        have hAF := hAC.ext hbF
        have hYF := hYC.ext hbF
        have hpF := hpC.ext hbF
        have hm3 : (wk.plus ⟨100, k3.wage, k3.share⟩).ctrs.length = m + 1 := by show (wk.ctrs ++ _).length = _; rw [List.length_append, Hm.out]; rfl
        have hn3 : (wk.plus ⟨100, k3.wage, k3.share⟩).ctys.length = n := Hn.out
        have Hpp := Lib.hid (fun i (hi : i < wk.ctrs.length) => hk.plus_paid ⟨100, k3.wage, k3.share⟩ rfl hi)
        have CR3 := fun W hA hB => RightWeek_big (wk.plus ⟨100, k3.wage, k3.share⟩) A B9 n c (m + 1) d9 W hn3 hm3 h1 (by omega) hA hB
        have CW3 := fun W hA hB => Week_put (wk.plus ⟨100, k3.wage, k3.share⟩) A B9 n c (m + 1) d9 W hn3 hm3 (by omega) (by omega) hA hB
        have CS3 := fun A B c d W hA hB hok => settle_good2 (wk.plus ⟨100, k3.wage, k3.share⟩) A B n c (m + 1) d W hn3 hm3 hA hB hok
        unfold wkV at CR3 CW3 CS3
        unfold payV at CS3
        have e3 : (wk.plus ⟨100, k3.wage, k3.share⟩).premium = wk.premium := rfl
        have eA : (wk.plus ⟨100, k3.wage, k3.share⟩).ctys = wk.ctys := rfl
        rw [e3] at CR3 CW3 CS3
        rw [eA] at CR3 CW3 CS3
        generalize wk.plus ⟨100, k3.wage, k3.share⟩ = wp at *
        have CR3 := Lib.hid CR3
        have CW3 := Lib.hid CW3
        have CS3 := Lib.hid CS3
        clear hbwC hXC hAC hYC hpC hbF hKC hBC hal hTD e3 eA hn3
        have Hm3 := Lib.hid hm3
        clear hm3
        generalize WC.heap.size = T at *
        generalize wc = WF at *
        have t0 : WF.cell? ⟨T, 0, none⟩ = _ := hTF.cell (i := 0) rfl
        have t1 : WF.cell? ⟨T, 1, none⟩ = _ := hTF.cell (i := 1) rfl
        have t2 : WF.cell? ⟨T, 2, none⟩ = _ := hTF.cell (i := 2) rfl
        go_wp2_with fail
        refine (CR3.out _ hAF hCF).mono ?_; rintro e WG ⟨rfl, hbG⟩
        have hbwG := ext_trans hbwF hbG
        have hXG := hXF.ext hbG
        have hAG := hAF.ext hbG
        have hYG := hYF.ext hbG
        have hpG := hpF.ext hbG
        have hTG := hTF.ext hbG
        have hCG := hCF.ext hbG
        clear hbwF hXF hAF hYF hpF hTF hCF hbG CR3 t0 t1 t2
        cases hok3 : wp.okB
        · go_wp2_with fail
          refine (awake_any _).mono ?_; rintro e wz ⟨rfl, hbz⟩
          go_wp2
          go_ret
          exact ⟨rfl, ext_trans hbwG hbz⟩
        have t0 : WG.cell? ⟨T, 0, none⟩ = _ := hTG.cell (i := 0) rfl
        have t1 : WG.cell? ⟨T, 1, none⟩ = _ := hTG.cell (i := 1) rfl
        have t2 : WG.cell? ⟨T, 2, none⟩ = _ := hTG.cell (i := 2) rfl
        go_wp2_with fail
        refine (CW3.out _ hAG hCG).mono ?_; rintro e WH ⟨AH, cH, BH, dH, rfl, fa, fb, -, -, hbH⟩
        have hbwH := ext_trans hbwG hbH
        have hXH := hXG.ext hbH
        have hYH := hYG.ext hbH
        have hpH := hpG.ext hbH
        have hTH := hTG.ext hbH
        clear hbwG hXG hAG hYG hpG hTG hCG hbH CW3 t0 t1 t2
        go_wp2_with fail
        refine (CS3.out AH BH cH dH _ fa fb hok3).mono ?_; rintro e WI ⟨R1, r1, R2, r2, R3, r3, R4, r4, R5, r5, rfl, hRI, -, hbI⟩
        have hbwI := ext_trans hbwH hbI
        have hXI := hXH.ext hbI
        have hYI := hYH.ext hbI
        have hpI := hpH.ext hbI
        have hTI := hTH.ext hbI
        clear hbwH hXH hYH hpH hTH hbI CS3 fa fb
        generalize wp.prem = prem3 at *
        generalize wk.premium - prem3 = lack3 at *
        generalize wp.settle.rest = rest3 at *
        have hJ := Blk.new WI 29 [.slice R1 n r1, .slice R2 n r2, .int .i64 prem3, .int .i64 lack3, .slice R3 (m + 1) r3, .slice R4 (m + 1) r4, .slice R5 (m + 1) r5, .int .i64 rest3]
        have hal := ext_alloc WI (.cells #[.slice R1 n r1, .slice R2 n r2, .int .i64 prem3, .int .i64 lack3, .slice R3 (m + 1) r3, .slice R4 (m + 1) r4, .slice R5 (m + 1) r5, .int .i64 rest3] 29)
        have hbwJ := ext_trans hbwI hal
        have hXJ := hXI.ext hal
        have hYJ := hYI.ext hal
        have hpJ := hpI.ext hal
        have hTJ := hTI.ext hal
        have hRJ := hRI.ext hal
        clear hbwI hXI hYI hpI hTI hRI hal
        go_upto_region 21 with fail
        change Blk (WI.alloc (.cells #[.slice R1 n r1, .slice R2 n r2, .int .i64 prem3, .int .i64 lack3, .slice R3 (m + 1) r3, .slice R4 (m + 1) r4, .slice R5 (m + 1) r5, .int .i64 rest3] 29)) _ _ _ at hJ
        generalize WI.heap.size = J at *
        generalize WI.alloc (.cells #[.slice R1 n r1, .slice R2 n r2, .int .i64 prem3, .int .i64 lack3, .slice R3 (m + 1) r3, .slice R4 (m + 1) r4, .slice R5 (m + 1) r5, .int .i64 rest3] 29) = WJ at *
        have j4 : WJ.cell? ⟨J, 4, none⟩ = _ := hJ.cell (i := 4) rfl
        have t2 : WJ.cell? ⟨T, 2, none⟩ = _ := hTJ.cell (i := 2) rfl
        go_wp2
        clear j4 t2
        go_loopw [19] (fun i wr => ∃ (j : Nat), i = .int .i64 j ∧ j ≤ m ∧ Below WJ.heap.size WJ wr) (fun i _ => m - (intOf i).toNat)
        case atStart => exact ⟨0, rfl, by omega, Below.refl _ _⟩
        case round =>
          obtain ⟨j, rfl, hjm, hb⟩ := hrel
          have xx : wr.cell? ⟨w.heap.size, 2, none⟩ = _ := (hXJ.ext hb).cell (i := 2) rfl
          by_cases hlt : j < m
          · have hlt' : (j : Int) < m := by omega
            have hlt3 : (j : Int) < (m : Int) + 1 := by omega
            have jc : j < wk.ctrs.length := by rw [Hm.out]; exact hlt
            have jc3 : j < wp.ctrs.length := by rw [Hm3.out]; omega
            have hpj := Hpp.out j jc
            go_upto_region 26 with fail
            clear xx
            refine Dr.wp_region_plan 11 [] (.q [0, 1, 2, 3, 4, 5, 6, 7, 8, 9, 10] .done) (by kernel_rfl) (by kernel_rfl) ?_
            have hb2 := hb.drew
            clear hb
            generalize World.drew _ = U at *
            obtain ⟨o1, p1, rfl, e1⟩ := tab_at (m := wk.ctrs.length) (f := wk.paid) (hpJ.ext hb2) jc
            obtain ⟨o3, p3, rfl, e3⟩ := (hRJ.ext hb2).at_p jc3
            rw [hpj] at e3
            generalize wk.paid j = a1 at *
            clear hpj
            have q1 : ¬ a1 < a1 := by omega
            have u1 := Dr.cell0 e1
            have u3 := Dr.cell0 e3
            have y4 := Dr.cell0 ((hYJ.ext hb2).cell (i := 4) rfl)
            have j4 := Dr.cell0 ((hJ.ext hb2).cell (i := 4) rfl)
            refine Dr.plan_q (l := [_, _, _, _, _, _, _, _, _, _, _]) rfl (fun K hK => ?_)
            iterate 11 (go_big_quiet_step (fail))
            refine wpQuiet_nil (hK _ ?_); clear hK K
            refine Dr.plan_end rfl ?_
            clear u1 u3 y4 j4
            go_wp2
            go_roundw
            case rel => exact ⟨j + 1, by go_num, by omega, hb2⟩
            case measure => simp [intOf]; omega
          · obtain rfl : m = j := by omega
            go_wp2_with fail
            refine (awake_any _).mono ?_; rintro e wz ⟨rfl, hbz⟩
            go_wp2
            go_ret
            exact ⟨rfl, ext_trans (ext_trans hbwJ hb) hbz⟩
end Go.Proofs.Ytnjdlhhgnamigaa

/- Walk: a ledger for the program. -/
import Derived.Test.YtnjdlhhgnamigaaGreatLgnB
namespace Go.Proofs.YtnjdlhhgnamigaaGreat
open Go.RowKit Go.Bs Go.Pu Go.Pl Go.Sort
set_option maxRecDepth 100000 in
set_option maxHeartbeats 4000000 in
theorem Ledger_any (l : Led) (A : Option Addr) (n c : Nat) (B : Option Addr) (m d : Nat) (D : Option Addr) (q e : Nat) (w : World) (hL : LedM w l A n B m D q) :
    Calls Tryz.prog 9 #[ledV A n c B m d l.office l.bank l.begun l.inn l.out D q e] w fun r w' => ∃ A' c' B' d' D' e', r = .returned (ledV A' n c' B' m d' l.office l.bank l.begun l.inn l.out D' q e') ∧ LedM w' l A' n B' m D' q ∧ Below w.heap.size w w' := by
  have hb0 := (ext_alloc w (.cells #[.slice A n c, .slice B m d, .int .i64 l.office, .int .i64 l.bank, .int .i64 l.begun, .int .i64 l.inn, .int .i64 l.out, .slice D q e] 26)).trans ((ext_alloc _ (.cells #[.slice none 0 0, .slice none 0 0, .int .i64 0, .int .i64 0, .int .i64 0, .int .i64 0, .int .i64 0, .slice none 0 0] 34)).mono (by simp))
  have hX := (Blk.new w 26 [.slice A n c, .slice B m d, .int .i64 l.office, .int .i64 l.bank, .int .i64 l.begun, .int .i64 l.inn, .int .i64 l.out, .slice D q e]).alloc (.cells #[.slice none 0 0, .slice none 0 0, .int .i64 0, .int .i64 0, .int .i64 0, .int .i64 0, .int .i64 0, .slice none 0 0] 34)
  have hR := Blk.new (w.alloc (.cells #[.slice A n c, .slice B m d, .int .i64 l.office, .int .i64 l.bank, .int .i64 l.begun, .int .i64 l.inn, .int .i64 l.out, .slice D q e] 26)) 34 [.slice none 0 0, .slice none 0 0, .int .i64 0, .int .i64 0, .int .i64 0, .int .i64 0, .int .i64 0, .slice none 0 0]
  have hsz : ((w.alloc (.cells #[.slice A n c, .slice B m d, .int .i64 l.office, .int .i64 l.bank, .int .i64 l.begun, .int .i64 l.inn, .int .i64 l.out, .slice D q e] 26)).alloc (.cells #[.slice none 0 0, .slice none 0 0, .int .i64 0, .int .i64 0, .int .i64 0, .int .i64 0, .int .i64 0, .slice none 0 0] 34)).heap.size = w.heap.size + 2 := by simp
  rw [World.size_alloc] at hR
  have hL0 := hL.ext hb0
  unfold ledV
  clear hL
  go_enter Tryz.func9, Tryz.ntmps9
  go_upto_region 1 with fail
  change Blk ((w.alloc (.cells #[.slice A n c, .slice B m d, .int .i64 l.office, .int .i64 l.bank, .int .i64 l.begun, .int .i64 l.inn, .int .i64 l.out, .slice D q e] 26)).alloc (.cells #[.slice none 0 0, .slice none 0 0, .int .i64 0, .int .i64 0, .int .i64 0, .int .i64 0, .int .i64 0, .slice none 0 0] 34)) _ _ _ at hX
  change Blk ((w.alloc (.cells #[.slice A n c, .slice B m d, .int .i64 l.office, .int .i64 l.bank, .int .i64 l.begun, .int .i64 l.inn, .int .i64 l.out, .slice D q e] 26)).alloc (.cells #[.slice none 0 0, .slice none 0 0, .int .i64 0, .int .i64 0, .int .i64 0, .int .i64 0, .int .i64 0, .slice none 0 0] 34)) _ _ _ at hR
  generalize (w.alloc (.cells #[.slice A n c, .slice B m d, .int .i64 l.office, .int .i64 l.bank, .int .i64 l.begun, .int .i64 l.inn, .int .i64 l.out, .slice D q e] 26)).alloc (.cells #[.slice none 0 0, .slice none 0 0, .int .i64 0, .int .i64 0, .int .i64 0, .int .i64 0, .int .i64 0, .slice none 0 0] 34) = W0 at *
  have hL1 := hL0
  obtain ⟨hn, hm, hq, n9, m9, q9, hA, hB, hD⟩ := hL1
  have CI := Lib.hid (fun W hA => list_any A n c l.windows W hn (by omega) hA)
  have Hn := Lib.hid hn
  have Hm := Lib.hid hm
  have Hq := Lib.hid hq
  clear hn hm hq hL0
  go_cut [3] (fun v W => ∃ P A1 c1, v = .pointer (some ⟨P, 0, none⟩) ∧ W0.heap.size ≤ P ∧ Blk W P 34 [.slice A1 n c1, .slice none 0 0, .int .i64 l.office, .int .i64 l.bank, .int .i64 l.begun, .int .i64 l.inn, .int .i64 l.out, .slice none 0 0] ∧ Cells W A1 1 encI l.windows ∧ (∀ k, A1.map (·.block) = some k → W0.heap.size ≤ k ∧ k < W.heap.size ∧ k ≠ P) ∧ Below W0.heap.size W0 W)
  case first =>
    refine Dr.wp_region_plan 15 [] (.q [0, 1, 3, 4, 5, 6, 7, 8, 9, 10, 11, 12] (.e2 2 (.q [13] (.e1 14 .done)) 14 (.e1 2 (.q [13] .done)))) (by kernel_rfl) (by kernel_rfl) ?_
    have hbd : Below W0.heap.size W0 W0.drew := (Below.refl _ _).drew
    have hXd := hX.ext hbd
    have hAd := hA.ext hbd
    clear hX hR hA hB hD hb0
    generalize World.drew _ = V at *
    have hVs := hbd.size
    have x0 := Dr.cell0 (hXd.cell (i := 0) rfl)
    have x2 := Dr.cell0 (hXd.cell (i := 2) rfl)
    have x3 := Dr.cell0 (hXd.cell (i := 3) rfl)
    have x4 := Dr.cell0 (hXd.cell (i := 4) rfl)
    have x5 := Dr.cell0 (hXd.cell (i := 5) rfl)
    have x6 := Dr.cell0 (hXd.cell (i := 6) rfl)
    refine Dr.plan_q (l := [_, _, _, _, _, _, _, _, _, _, _, _]) rfl (fun K hK => ?_)
    iterate 12 (go_big_quiet_step (fail))
    refine wpQuiet_nil (hK _ ?_); clear hK K
    clear x0 x2 x3 x4 x5 x6
    refine Dr.plan_e2 ?_ ?_
    · refine Dr.plan_e rfl (by rfl) (fun K hK => ?_)
      go_wp2_with fail
      refine (CI.out _ hAd).mono ?_; rintro r V1 ⟨v1, rfl, ⟨A1, c1, rfl, -, -, f1, g1⟩, hb1⟩
      rw [Hn.out]
      go_wp2
      refine hK _ _ (.of hb1) ?_; clear hK K
      refine Dr.plan_q (l := [_]) rfl (fun K hK => ?_)
      iterate 1 (go_big_quiet_step (fail))
      refine wpQuiet_nil (hK _ ?_); clear hK K
      refine Dr.plan_e rfl (by rfl) (fun K hK => ?_)
      go_wp2_with fail
      refine hK _ _ (.of (ext_alloc _ _)) ?_; clear hK K
      have hP := Blk.new V1 34 [.slice none 0 0, .slice none 0 0, .int .i64 0, .int .i64 0, .int .i64 0, .int .i64 0, .int .i64 0, .slice none 0 0]
      have hal := ext_alloc V1 (.cells #[.slice none 0 0, .slice none 0 0, .int .i64 0, .int .i64 0, .int .i64 0, .int .i64 0, .int .i64 0, .slice none 0 0] 34)
      have f2 := f1.ext hal
      have hb2 := (ext_trans hb1 hal)
      have hs1 := hb1.size
      have hs2 : V1.heap.size < (V1.alloc (.cells #[.slice none 0 0, .slice none 0 0, .int .i64 0, .int .i64 0, .int .i64 0, .int .i64 0, .int .i64 0, .slice none 0 0] 34)).heap.size := by simp
      change Blk (V1.alloc (.cells #[.slice none 0 0, .slice none 0 0, .int .i64 0, .int .i64 0, .int .i64 0, .int .i64 0, .int .i64 0, .slice none 0 0] 34)) _ _ _ at hP
      generalize V1.alloc (.cells #[.slice none 0 0, .slice none 0 0, .int .i64 0, .int .i64 0, .int .i64 0, .int .i64 0, .int .i64 0, .slice none 0 0] 34) = V2 at *
      generalize hPe : V1.heap.size = P at *
      clear f1 hb1 hal CI hXd hAd
      have y0 : V2.cell? ⟨P, 0, none⟩ = _ := hP.cell (i := 0) rfl
      have y1 : V2.cell? ⟨P, 1, none⟩ = _ := hP.cell (i := 1) rfl
      have y2 : V2.cell? ⟨P, 2, none⟩ = _ := hP.cell (i := 2) rfl
      have y3 : V2.cell? ⟨P, 3, none⟩ = _ := hP.cell (i := 3) rfl
      have y4 : V2.cell? ⟨P, 4, none⟩ = _ := hP.cell (i := 4) rfl
      have y5 : V2.cell? ⟨P, 5, none⟩ = _ := hP.cell (i := 5) rfl
      have y6 : V2.cell? ⟨P, 6, none⟩ = _ := hP.cell (i := 6) rfl
      have y7 : V2.cell? ⟨P, 7, none⟩ = _ := hP.cell (i := 7) rfl
      have f0 := hP.free 0
      have f1 := hP.free 1
      have f2 := hP.free 2
      have f3 := hP.free 3
      have f4 := hP.free 4
      have f5 := hP.free 5
      have f6 := hP.free 6
      have f7 := hP.free 7
      refine Dr.plan_done (tl := [_]) rfl ?_
      go_wp2
      generalize hWf : World.setCell _ _ _ = Wf
      have hPf := hP.put_eq [.slice A1 n c1, .slice none 0 0, .int .i64 l.office, .int .i64 l.bank, .int .i64 l.begun, .int .i64 l.inn, .int .i64 l.out, .slice none 0 0] hWf rfl
      have hbf : Dr.Bel [P] V2 Wf := bel_put_eq [.slice A1 n c1, .slice none 0 0, .int .i64 l.office, .int .i64 l.bank, .int .i64 l.begun, .int .i64 l.inn, .int .i64 l.out, .slice none 0 0] hWf
      clear hWf y0 y1 y2 y3 y4 y5 y6 y7 f0 f1 f2 f3 f4 f5 f6 f7
      go_meet
      case rel => exact ⟨P, A1, c1, rfl, by omega, hPf, cells_bel f2 hbf (fun k hk => by have := (g1 k hk).2; simp; omega), fun k hk => by have := g1 k hk; have := hbf.size; omega, ext_trans hbd (hb2.trans (hbf.old hb2.size (by simp; omega)))⟩
    · refine Dr.plan_e rfl (by rfl) (fun K hK => ?_)
      go_wp2_with fail
      refine hK _ _ (.of (ext_alloc _ _)) ?_; clear hK K
      have hP0 := Blk.new V 34 [.slice none 0 0, .slice none 0 0, .int .i64 0, .int .i64 0, .int .i64 0, .int .i64 0, .int .i64 0, .slice none 0 0]
      have hal := ext_alloc V (.cells #[.slice none 0 0, .slice none 0 0, .int .i64 0, .int .i64 0, .int .i64 0, .int .i64 0, .int .i64 0, .slice none 0 0] 34)
      have hA1 := hAd.ext hal
      have hs1 : V.heap.size < (V.alloc (.cells #[.slice none 0 0, .slice none 0 0, .int .i64 0, .int .i64 0, .int .i64 0, .int .i64 0, .int .i64 0, .slice none 0 0] 34)).heap.size := by simp
      change Blk (V.alloc (.cells #[.slice none 0 0, .slice none 0 0, .int .i64 0, .int .i64 0, .int .i64 0, .int .i64 0, .int .i64 0, .slice none 0 0] 34)) _ _ _ at hP0
      generalize V.alloc (.cells #[.slice none 0 0, .slice none 0 0, .int .i64 0, .int .i64 0, .int .i64 0, .int .i64 0, .int .i64 0, .slice none 0 0] 34) = V1 at *
      refine Dr.plan_e rfl (by rfl) (fun K hK => ?_)
      go_wp2_with fail
      refine (CI.out _ hA1).mono ?_; rintro r V2 ⟨v1, rfl, ⟨A1, c1, rfl, -, -, f2, g1⟩, hb1⟩
      rw [Hn.out]
      go_wp2
      refine hK _ _ (.of hb1) ?_; clear hK K
      have hP := hP0.ext hb1
      have hb2 := ext_trans hal hb1
      have hs2 := hb1.size
      generalize hPe : V.heap.size = P at *
      refine Dr.plan_q (l := [_]) rfl (fun K hK => ?_)
      iterate 1 (go_big_quiet_step (fail))
      refine wpQuiet_nil (hK _ ?_); clear hK K
      clear hP0 hb1 hal CI hXd hAd hA1
      have y0 : V2.cell? ⟨P, 0, none⟩ = _ := hP.cell (i := 0) rfl
      have y1 : V2.cell? ⟨P, 1, none⟩ = _ := hP.cell (i := 1) rfl
      have y2 : V2.cell? ⟨P, 2, none⟩ = _ := hP.cell (i := 2) rfl
      have y3 : V2.cell? ⟨P, 3, none⟩ = _ := hP.cell (i := 3) rfl
      have y4 : V2.cell? ⟨P, 4, none⟩ = _ := hP.cell (i := 4) rfl
      have y5 : V2.cell? ⟨P, 5, none⟩ = _ := hP.cell (i := 5) rfl
      have y6 : V2.cell? ⟨P, 6, none⟩ = _ := hP.cell (i := 6) rfl
      have y7 : V2.cell? ⟨P, 7, none⟩ = _ := hP.cell (i := 7) rfl
      have f0 := hP.free 0
      have f1 := hP.free 1
      have f2 := hP.free 2
      have f3 := hP.free 3
      have f4 := hP.free 4
      have f5 := hP.free 5
      have f6 := hP.free 6
      have f7 := hP.free 7
      refine Dr.plan_done (tl := [_]) rfl ?_
      go_wp2
      generalize hWf : World.setCell _ _ _ = Wf
      have hPf := hP.put_eq [.slice A1 n c1, .slice none 0 0, .int .i64 l.office, .int .i64 l.bank, .int .i64 l.begun, .int .i64 l.inn, .int .i64 l.out, .slice none 0 0] hWf rfl
      have hbf : Dr.Bel [P] V2 Wf := bel_put_eq [.slice A1 n c1, .slice none 0 0, .int .i64 l.office, .int .i64 l.bank, .int .i64 l.begun, .int .i64 l.inn, .int .i64 l.out, .slice none 0 0] hWf
      clear hWf y0 y1 y2 y3 y4 y5 y6 y7 f0 f1 f2 f3 f4 f5 f6 f7
      go_meet
      case rel => exact ⟨P, A1, c1, rfl, by omega, hPf, cells_bel f2 hbf (fun k hk => by have := (g1 k hk).1; simp; omega), fun k hk => by have := g1 k hk; have := hbf.size; omega, hbd.trans ((hb2.mono hVs).trans (hbf.old (by omega) (by simp; omega)))⟩
  case rest =>
    obtain ⟨P, A1, c1, rfl, hPg, hP, hA1, hAg, hb1⟩ := hcut
    have hX1 := hX.ext hb1
    have hR1 := hR.ext hb1
    have hB1 := hB.ext hb1
    have hD1 := hD.ext hb1
    have hBl : ∀ k, B.map (·.block) = some k → 0 < m → k < W0.heap.size := fun k hk h0 => by
      obtain ⟨b, off, e, hlt, -⟩ := hB.at6 (k := 0) (by rw [Hm.out]; exact h0) rfl
      subst e; simp at hk; subst hk; exact hlt
    have hDl : ∀ k, D.map (·.block) = some k → 0 < q → k < W0.heap.size := fun k hk h0 => by
      obtain ⟨b, off, e, hlt, -⟩ := hD.at3 (k := 0) (by rw [Hq.out]; exact h0) rfl
      subst e; simp at hk; subst hk; exact hlt
    have hPl := hP.lt
    clear hX hR hA hB hD CI
    generalize wc = W1 at *
    go_wp2
    go_loopw [4, 5] (fun x _ wr => ∃ (k : Nat) (v : Value), x = .int .i64 k ∧ k ≤ m ∧ OwnL wr W1.heap.size 80 6 Bag.enc v (l.bags.take k) ∧ Blk wr P 34 [.slice A1 n c1, v, .int .i64 l.office, .int .i64 l.bank, .int .i64 l.begun, .int .i64 l.inn, .int .i64 l.out, .slice none 0 0] ∧ Dr.Bel [P] W1 wr) (fun x _ _ => m - (intOf x).toNat)
    case atStart => exact ⟨0, _, rfl, by omega, OwnL.nil, hP, Dr.Bel.refl _ _⟩
    case round =>
      clear hP
      obtain ⟨k, v, rfl, hk, hown, hP, hb⟩ := hrel
      have hXr := hb.blk hX1 (by simp; omega)
      have x1 : wr.cell? ⟨w.heap.size, 1, none⟩ = _ := hXr.cell (i := 1) rfl
      by_cases hlt : k < m
      · have hlt' : (k : Int) < (m : Int) := by omega
        have hkl : k < l.bags.length := by rw [Hm.out]; exact hlt
        obtain ⟨b, off, rfl, -, c0, c1', c2, c3, c4, c5⟩ := (cells_bel hB1 hb (fun z hz => by have := hBl z hz (by omega); simp; omega)).at6 hkl rfl
        have Ht := Lib.hid (List.take_succ_eq_append_getElem hkl)
        generalize l.bags[k] = x at *
        obtain ⟨a1, a2, a3, a4, a5, a6⟩ := x
        simp only at c0 c1' c2 c3 c4 c5
        go_upto_region 6 with fail
        have hU := Blk.new wr 83 [.int .i64 a1, .int .i64 a2, .int .i64 a3, .int .i64 a4, .int .i64 a5, .bool a6]
        have hb2 : Dr.Bel [P] W1 (wr.alloc (.cells #[.int .i64 a1, .int .i64 a2, .int .i64 a3, .int .i64 a4, .int .i64 a5, .bool a6] 83)) := hb.then_below ((ext_alloc _ _).mono hb.size)
        have ho2 := hown.alloc (.cells #[.int .i64 a1, .int .i64 a2, .int .i64 a3, .int .i64 a4, .int .i64 a5, .bool a6] 83)
        have hP2 := hP.alloc (.cells #[.int .i64 a1, .int .i64 a2, .int .i64 a3, .int .i64 a4, .int .i64 a5, .bool a6] 83)
        have hBw := hb.size
        clear hown hP hXr x1 c0 c1' c2 c3 c4 c5 hb
        change Blk (wr.alloc (.cells #[.int .i64 a1, .int .i64 a2, .int .i64 a3, .int .i64 a4, .int .i64 a5, .bool a6] 83)) _ _ _ at hU
        generalize hU0 : wr.heap.size = U at *
        generalize wr.alloc (.cells #[.int .i64 a1, .int .i64 a2, .int .i64 a3, .int .i64 a4, .int .i64 a5, .bool a6] 83) = W2 at *
        clear hU0 wr
        have z1 : W2.cell? ⟨P, 1, none⟩ = _ := hP2.cell (i := 1) rfl
        have y0 : W2.cell? ⟨U, 0, none⟩ = _ := hU.cell (i := 0) rfl
        have y1 : W2.cell? ⟨U, 1, none⟩ = _ := hU.cell (i := 1) rfl
        have y2 : W2.cell? ⟨U, 2, none⟩ = _ := hU.cell (i := 2) rfl
        have y3 : W2.cell? ⟨U, 3, none⟩ = _ := hU.cell (i := 3) rfl
        have y4 : W2.cell? ⟨U, 4, none⟩ = _ := hU.cell (i := 4) rfl
        have y5 : W2.cell? ⟨U, 5, none⟩ = _ := hU.cell (i := 5) rfl
        go_wp2_with (at_builtin; refine app1 Bag.enc 31 80 6 48 et78 (by decide) (by decide) bag_len bag_one rfl _ _ rfl W1.heap.size _ (l.bags.take k) rfl (ho2.alloc _) W2.heap.size rfl ⟨a1, a2, a3, a4, a5, a6⟩ new_cell (by simp; omega) (by have := hb2.size; simp; omega) ?_; intro g' cap' w' hown' hb3 _ _; have hP3 := (hP2.alloc (.cells #[.int .i64 a1, .int .i64 a2, .int .i64 a3, .int .i64 a4, .int .i64 a5, .bool a6] 80)).under hb3 hPl; have zz : w'.cell? ⟨P, 1, none⟩ = _ := hP3.cell (i := 1) rfl; have zf := hP3.free 1)
        have hb4 := (hb2.then_below ((ext_alloc _ (.cells #[.int .i64 a1, .int .i64 a2, .int .i64 a3, .int .i64 a4, .int .i64 a5, .bool a6] 80)).mono hb2.size)).then_below hb3
        rw [← Ht.out] at hown'
        have hown2 := hown'.setCell (p := ⟨P, 1, none⟩) hPl
        go_roundw
        case rel => exact ⟨k + 1, _, by go_num, by omega, hown2 _, by simpa using hP3.set 1 _, hb4.put (by simp) _⟩
        case measure => simp [intOf]; omega
      · obtain rfl : k = m := by omega
        rw [List.take_of_length_le (by rw [Hm.out]; omega)] at hown
        go_wp2
        clear x1
        have hBf : FreshL W1 wr 6 Bag.enc v l.bags := FreshL.of_own hown bag_len (Nat.le_refl _)
        have hR2 := hb.blk hR1 (by simp; omega)
        have hA2 := cells_bel hA1 hb (fun z hz => by have := (hAg z hz).2.2; simp; omega)
        have hD2 := fun j => cells_bel (M := [P]) hD1 hb j
        have hs2 := hb.size
        have hP2l := hP.lt
        have hbw : Below W0.heap.size W0 wr := hb1.trans (hb.old hb1.size (by simp; omega))
        clear hown hR1 hA1 hX1 hb
        generalize wr = W3 at *
        go_loopw [6] (fun x wr => ∃ (j : Nat) (u : Value), x = .int .i64 j ∧ j ≤ q ∧ OwnL wr W3.heap.size 76 3 Dif.enc u (l.diffs.take j) ∧ Blk wr P 34 [.slice A1 n c1, v, .int .i64 l.office, .int .i64 l.bank, .int .i64 l.begun, .int .i64 l.inn, .int .i64 l.out, u] ∧ Dr.Bel [P] W3 wr) (fun x _ => q - (intOf x).toNat)
        case atStart => exact ⟨0, _, rfl, by omega, OwnL.nil, hP, Dr.Bel.refl _ _⟩
        case round =>
          clear hP
          obtain ⟨j, u, rfl, hj, hown, hP, hb⟩ := hrel
          have hX3 := hb.blk hXr (by simp; omega)
          have x7 : wr.cell? ⟨w.heap.size, 7, none⟩ = _ := hX3.cell (i := 7) rfl
          by_cases hlt2 : j < q
          · have hlt' : (j : Int) < (q : Int) := by omega
            have hjl : j < l.diffs.length := by rw [Hq.out]; exact hlt2
            have hD3 := hD2 (fun z hz => by have := hDl z hz (by omega); simp; omega)
            go_upto_region 10 with fail
            clear x7
            refine Dr.wp_region_plan 22 [] (.q [0, 1, 2, 3, 4, 5, 6, 7, 8, 9, 10, 11, 12, 13, 14, 15, 16, 17, 18, 19, 20] (.e1 21 .done)) (by kernel_rfl) (by kernel_rfl) ?_
            have hbd := hb.then_below ((ext_drew wr).mono hb.size)
            have hod := hown.drew
            have hPd := hP.drew
            have hXd := hX3.drew
            have hsd : wr.heap.size = wr.drew.heap.size := rfl
            clear hown hP hX3 hb
            generalize World.drew _ = V at *
            obtain ⟨b, off, rfl, -, c0, c1', c2⟩ := (cells_bel hD3 hbd (fun z hz => by have := hDl z hz (by omega); simp; omega)).at3 hjl rfl
            have Ht := Lib.hid (List.take_succ_eq_append_getElem hjl)
            generalize l.diffs[j] = x at *
            obtain ⟨d1, d2, d3⟩ := x
            simp only at c0 c1' c2
            have u0 := Dr.cell0 c0
            have u1 := Dr.cell0 c1'
            have u2 := Dr.cell0 c2
            have x7 := Dr.cell0 (hXd.cell (i := 7) rfl)
            have p7 := Dr.cell0 (hPd.cell (i := 7) rfl)
            refine Dr.plan_q (l := [_, _, _, _, _, _, _, _, _, _, _, _, _, _, _, _, _, _, _, _, _]) rfl (fun K hK => ?_)
            iterate 21 (go_big_quiet_step (fail))
            refine wpQuiet_nil (hK _ ?_); clear hK K
            clear u0 u1 u2 x7 p7 c0 c1' c2
            refine Dr.plan_e rfl (by rfl) (fun K hK => ?_)
            go_wp2_with fail
            refine hK _ _ (.of (ext_alloc _ _)) ?_; clear hK K
            have hE := Blk.new V 76 [.int .i64 d1, .int .i64 d2, .bool d3]
            have ho2 := hod.alloc (.cells #[.int .i64 d1, .int .i64 d2, .bool d3] 76)
            have hP2 := hPd.alloc (.cells #[.int .i64 d1, .int .i64 d2, .bool d3] 76)
            have hb2 := hbd.then_below ((ext_alloc V (.cells #[.int .i64 d1, .int .i64 d2, .bool d3] 76)).mono hbd.size)
            change Blk (V.alloc (.cells #[.int .i64 d1, .int .i64 d2, .bool d3] 76)) _ _ _ at hE
            generalize V.alloc (.cells #[.int .i64 d1, .int .i64 d2, .bool d3] 76) = V2 at *
            refine Dr.plan_done (tl := [_, _, _]) rfl ?_
            go_wp2_with (at_builtin; refine app1 Dif.enc 32 76 3 24 et79 (by decide) (by decide) dif_len dif_one rfl _ _ rfl W3.heap.size _ (l.diffs.take j) rfl ho2 V.heap.size rfl ⟨d1, d2, d3⟩ (fun z y h => hE.cell h) (by simp; omega) (by have := hb2.size; omega) ?_; intro g' cap' w' hown' hb3 _ _; have hP3 := hP2.under hb3 hP2l; have zz : w'.cell? ⟨P, 7, none⟩ = _ := hP3.cell (i := 7) rfl; have zf := hP3.free 7)
            have hb4 := hb2.then_below hb3
            rw [← Ht.out] at hown'
            have hown2 := hown'.setCell (p := ⟨P, 7, none⟩) hP2l
            go_roundw
            case rel => exact ⟨j + 1, _, by go_num, by omega, hown2 _, by simpa using hP3.set 7 _, hb4.put (by simp) _⟩
            case measure => simp [intOf]; omega
          · obtain rfl : j = q := by omega
            rw [List.take_of_length_le (by rw [Hq.out]; omega)] at hown
            have hR3 := hb.blk hR2 (by simp; omega)
            have hDf : FreshL W3 wr 3 Dif.enc u l.diffs := FreshL.of_own hown dif_len (Nat.le_refl _)
            have hBf2 := fresh_bel hBf hb (by simp; omega)
            have hA3 := cells_bel hA2 hb (fun z hz => by have := (hAg z hz).2.2; simp; omega)
            obtain ⟨B1, p1, rfl, -, -, hb9, hb8⟩ := hBf2
            obtain ⟨D1, p2, rfl, -, -, hd9, hd8⟩ := hDf
            rw [Hm.out, Hq.out] at hP
            have hs3 := hb.size
            have z0 : wr.cell? ⟨P, 0, none⟩ = _ := hP.cell (i := 0) rfl
            have z1 : wr.cell? ⟨P, 1, none⟩ = _ := hP.cell (i := 1) rfl
            have z2 : wr.cell? ⟨P, 2, none⟩ = _ := hP.cell (i := 2) rfl
            have z3 : wr.cell? ⟨P, 3, none⟩ = _ := hP.cell (i := 3) rfl
            have z4 : wr.cell? ⟨P, 4, none⟩ = _ := hP.cell (i := 4) rfl
            have z5 : wr.cell? ⟨P, 5, none⟩ = _ := hP.cell (i := 5) rfl
            have z6 : wr.cell? ⟨P, 6, none⟩ = _ := hP.cell (i := 6) rfl
            have z7 : wr.cell? ⟨P, 7, none⟩ = _ := hP.cell (i := 7) rfl
            have y0 : wr.cell? ⟨(w.heap.size + 1), 0, none⟩ = _ := hR3.cell (i := 0) rfl
            have y1 : wr.cell? ⟨(w.heap.size + 1), 1, none⟩ = _ := hR3.cell (i := 1) rfl
            have y2 : wr.cell? ⟨(w.heap.size + 1), 2, none⟩ = _ := hR3.cell (i := 2) rfl
            have y3 : wr.cell? ⟨(w.heap.size + 1), 3, none⟩ = _ := hR3.cell (i := 3) rfl
            have y4 : wr.cell? ⟨(w.heap.size + 1), 4, none⟩ = _ := hR3.cell (i := 4) rfl
            have y5 : wr.cell? ⟨(w.heap.size + 1), 5, none⟩ = _ := hR3.cell (i := 5) rfl
            have y6 : wr.cell? ⟨(w.heap.size + 1), 6, none⟩ = _ := hR3.cell (i := 6) rfl
            have y7 : wr.cell? ⟨(w.heap.size + 1), 7, none⟩ = _ := hR3.cell (i := 7) rfl
            have f0 := hR3.free 0
            have f1 := hR3.free 1
            have f2 := hR3.free 2
            have f3 := hR3.free 3
            have f4 := hR3.free 4
            have f5 := hR3.free 5
            have f6 := hR3.free 6
            have f7 := hR3.free 7
            go_wp2
            generalize hWf : World.setCell _ _ _ = Wf
            have hRf := hR3.put_eq [.slice A1 n c1, .slice B1 k p1, .int .i64 l.office, .int .i64 l.bank, .int .i64 l.begun, .int .i64 l.inn, .int .i64 l.out, .slice D1 j p2] hWf rfl
            have hbf : Dr.Bel [w.heap.size + 1] wr Wf := bel_put_eq [.slice A1 n c1, .slice B1 k p1, .int .i64 l.office, .int .i64 l.bank, .int .i64 l.begun, .int .i64 l.inn, .int .i64 l.out, .slice D1 j p2] hWf
            clear hWf
            have g0 : Wf.cell? ⟨(w.heap.size + 1), 0, none⟩ = _ := hRf.cell (i := 0) rfl
            have g1 : Wf.cell? ⟨(w.heap.size + 1), 1, none⟩ = _ := hRf.cell (i := 1) rfl
            have g2 : Wf.cell? ⟨(w.heap.size + 1), 2, none⟩ = _ := hRf.cell (i := 2) rfl
            have g3 : Wf.cell? ⟨(w.heap.size + 1), 3, none⟩ = _ := hRf.cell (i := 3) rfl
            have g4 : Wf.cell? ⟨(w.heap.size + 1), 4, none⟩ = _ := hRf.cell (i := 4) rfl
            have g5 : Wf.cell? ⟨(w.heap.size + 1), 5, none⟩ = _ := hRf.cell (i := 5) rfl
            have g6 : Wf.cell? ⟨(w.heap.size + 1), 6, none⟩ = _ := hRf.cell (i := 6) rfl
            have g7 : Wf.cell? ⟨(w.heap.size + 1), 7, none⟩ = _ := hRf.cell (i := 7) rfl
            refine bodyPost_ret (v := .agg #[.slice A1 n c1, .slice B1 k p1, .int .i64 l.office, .int .i64 l.bank, .int .i64 l.begun, .int .i64 l.inn, .int .i64 l.out, .slice D1 j p2]) (by simp [results, Tryz.results9, go_sem, g0, g1, g2, g3, g4, g5, g6, g7]) rfl ?_
            have hbz : Below W0.heap.size W0 wr := hbw.trans (hb.old hbw.size (by simp; omega))
            exact ⟨A1, c1, B1, p1, D1, p2, rfl, ⟨Hn.out, Hm.out, Hq.out, n9, m9, q9, cells_bel hA3 hbf (fun z hz => by have := (hAg z hz).1; simp; omega), cells_bel hb9 hbf (fun z hz => by have := (hb8 z hz).1; simp; omega), cells_bel hd9 hbf (fun z hz => by have := (hd8 z hz).1; simp; omega)⟩, hb0.trans ((hbz.mono (by omega)).trans (hbf.old (by have := hbz.size; omega) (by simp)))⟩
end Go.Proofs.YtnjdlhhgnamigaaGreat

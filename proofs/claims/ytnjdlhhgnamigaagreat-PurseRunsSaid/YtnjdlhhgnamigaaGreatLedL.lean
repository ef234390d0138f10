/- Walk: what an act does: open. -/
import Derived.Test.YtnjdlhhgnamigaaGreatLedK
namespace Go.Proofs.YtnjdlhhgnamigaaGreat
open Go.RowKit Go.Bs Go.Pu Go.Pl Go.Sort
section
variable {base : Nat} {w W X : World} {P : Nat} {A : Option Addr} {n c : Nat} {B : Option Addr} {m d : Nat} {D : Option Addr} {q e : Nat} {l : Led} {a : Pu.Act}

set_option maxRecDepth 100000 in
set_option maxHeartbeats 1000000 in
theorem open_c (h : DeskM base w P A n c B m d D q e l a) (hk : a.kind = 6) (hm : l.mon) (hq900 : q ≤ 999) : Calls Tryz.prog 84 #[.pointer (some ⟨P, 0, none⟩)] w fun r w' => OpR base w P l a r w' := by
  have hd : doL l a = if !l.bgB a.bag then (Led.zero, 2) else if (l.bg a.bag).opened then (Led.zero, 8) else if 1000000000000 < l.office + (l.bg a.bag).holds then (Led.zero, 3) else ({ l.setBag a.bag { l.bg a.bag with holds := 0, opened := true } with office := l.office + (l.bg a.bag).holds, diffs := (if (l.bg a.bag).holds != (l.bg a.bag).written || (l.bg a.bag).broken then l.diffs ++ [⟨a.bag, (l.bg a.bag).written - (l.bg a.bag).holds, (l.bg a.bag).broken⟩] else l.diffs) }, 0) := by unfold doL; rw [if_neg (by omega), if_neg (by omega), if_neg (by omega), if_neg (by omega), if_neg (by omega), if_pos hk]
  have Hd := Lib.hid hd
  have hPb : base ≤ w.heap.size := Nat.le_trans h.hP (Nat.le_of_lt h.blk.lt)
  have hB0 : Below base w w := Below.refl _ _
  have h0 := h
  have Hm := Lib.hid hm
  clear hd h hk hm
  go_enter Tryz.func84, Tryz.ntmps84
  have hq9 := hq900
  have CW := Lib.hid (fun W => within_any a.bag 0 ((m : Int) - 1) W)
  have CA := Lib.hid (fun b W => ask_c b 2 W)
  have hbgB : l.bgB a.bag = decide (0 ≤ a.bag ∧ a.bag ≤ (m : Int) - 1) := by unfold Led.bgB; rw [h0.hm]
  rw [← hbgB] at CW
  have hm9 := h0.m9
  go_upto_region 0 with fail
  refine Dr.wp_region_plan 13 [] (.q [0, 1, 2, 3, 4, 5, 6, 7, 8, 9, 10, 11] (.e1 12 .done)) (by kernel_rfl) (by kernel_rfl) ?_
  have hd := h0.ext (ext_drew w)
  have hBd : Below base w w.drew := hB0.drew
  clear h0 hB0 hbgB
  generalize hWW : w.drew = W at *
  clear hWW
  have q1 := Dr.cell0 (hd.blk.cell (i := 1) rfl)
  have q10 := Dr.cell0 (hd.blk.cell (i := 10) rfl)
  have hlt := hd.blk.lt
  refine Dr.plan_q (l := [_, _, _, _, _, _, _, _, _, _, _, _]) rfl (fun K hK => ?_)
  iterate 12 (go_big_quiet_step (fail))
  refine wpQuiet_nil (hK _ ?_); clear hK K
  refine Dr.plan_e rfl (by rfl) (fun K hK => ?_)
  go_wp2_with fail
  refine (CW.out _).mono ?_; rintro r wx ⟨rfl, rfl⟩
  refine hK _ _ (.refl _ _) ?_; clear hK K
  refine Dr.plan_done (tl := [_]) rfl ?_
  go_wp2_with fail
  refine (CA.out _ _).mono ?_; rintro r wx ⟨rfl, rfl⟩
  cases hb1 : l.bgB a.bag
  · simp only [askE, Bool.false_eq_true, if_false]
    exact ⟨rfl, OpR.bad hBd (by rw [Hd.out, hb1]; rfl) (by omega)⟩
  simp only [askE, if_true]
  clear q1 q10 CW CA
  obtain ⟨g, bi, hbi, rfl, hab, hbim, hbg⟩ := hd.bagAt hb1
  have Hd0 := Lib.hid (show doL l a = if (l.bg a.bag).opened then (Led.zero, 8) else if 1000000000000 < l.office + (l.bg a.bag).holds then (Led.zero, 3) else ({ l.setBag a.bag { l.bg a.bag with holds := 0, opened := true } with office := l.office + (l.bg a.bag).holds, diffs := (if (l.bg a.bag).holds != (l.bg a.bag).written || (l.bg a.bag).broken then l.diffs ++ [⟨a.bag, (l.bg a.bag).written - (l.bg a.bag).holds, (l.bg a.bag).broken⟩] else l.diffs) }, 0) by rw [Hd.out, hb1]; rfl)
  clear Hd
  obtain ⟨bA, bc, hbv, -, -, hbC⟩ := hd.ob.cells bag_len
  rw [hd.hm] at hbv
  cases hbv
  have hbgm : 0 ≤ a.bag ∧ a.bag < m := by omega
  have C1 := Lib.hid (closed_c P A n c g 0 m d _ l a W hd.hm hd.m9 hbC hd.blk hbgm)
  rw [hab, Int.toNat_natCast, Nat.zero_add] at C1
  clear hbC
  go_wp2_with fail
  refine C1.out.mono ?_; rintro r w1 ⟨hb1', rfl⟩
  have h1 := hd.ext hb1'
  have hB1 := hBd.trans (hb1'.mono (Nat.le_trans hPb hBd.size))
  clear hd hBd hb1' C1
  rw [← hab]
  cases hop : (l.bg a.bag).opened
  case true =>
    simp only [if_true]
    exact ⟨rfl, OpR.bad hB1 (by rw [Hd0.out, if_pos hop]) (by omega)⟩
  simp only [Bool.false_eq_true, if_false]
  have Hd1 := Lib.hid (show doL l a = if 1000000000000 < l.office + (l.bg a.bag).holds then (Led.zero, 3) else ({ l.setBag a.bag { l.bg a.bag with holds := 0, opened := true } with office := l.office + (l.bg a.bag).holds, diffs := (if (l.bg a.bag).holds != (l.bg a.bag).written || (l.bg a.bag).broken then l.diffs ++ [⟨a.bag, (l.bg a.bag).written - (l.bg a.bag).holds, (l.bg a.bag).broken⟩] else l.diffs) }, 0) by rw [Hd0.out, if_neg (by rw [hop]; simp)])
  clear Hd0
  have hhb := Hm.out.h _ (List.getElem_mem hbi)
  have Hab := Lib.hid hab
  have Hbg := Lib.hid hbg
  have hltg := (h1.ob.block_ge rfl g rfl).2
  have hgb := (h1.ob.block_ge rfl g rfl).1
  clear hab hbg
  rw [Hbg.out] at Hd1 hop
  have C9 := Lib.hid (fun W => broken_any (l.bags[bi]) W)
  unfold Bag.val at C9
  generalize hbr : (l.bags[bi]).broken = br at *
  have Hbr := Lib.hid hbr
  clear hbr
  have hbx : ∃ x : Bag, l.bags[bi] = x := ⟨_, rfl⟩
  obtain ⟨x, hx⟩ := hbx
  have hcells : ∀ (W : World) (l' : Led) (a' : Pu.Act) (D' : Option Addr) (q' e' : Nat), l'.bags = l.bags → DeskM base W P A n c (some ⟨g, 0, none⟩) m d D' q' e' l' a' → ∃ cs, Blk W g 80 cs ∧ ∀ (j : Nat) (u : Value), (Bag.enc x)[j]? = some u → cs[bi * 6 + j]? = some u := fun W l' a' D' q' e' hl h => by
    obtain ⟨cs, h1, h2⟩ := h.ob.blkAt bag_len
    exact ⟨cs, h1, fun j u hu => h2 bi j x u (by rw [hl, ← hx]; simp) hu⟩
  have Hcells := Lib.hid hcells
  clear hcells
  rw [hx] at Hd1 hop hhb C9
  obtain ⟨x0, x1, x2, x3, x4, x5⟩ := x
  simp only at Hd1 hop hhb C9
  subst hop
  have Hx := Lib.hid hx
  clear hx
  go_upto_region 2 with fail
  go_cut [33] (fun v W => v = .bool (x3 != x2 || br) ∧ DeskM base W P A n c (some ⟨g, 0, none⟩) m d D q e l a ∧ Below base w W)
  case first =>
    refine Dr.wp_region_plan 15 [] (.q [0, 1, 2, 3, 4, 5, 6, 7, 8, 9, 10, 11, 12] (.e1 13 (.q [14] .done))) (by kernel_rfl) (by kernel_rfl) ?_
    have hd := h1.ext (ext_drew w1)
    have hBd : Below base w w1.drew := hB1.drew
    clear h1 hB1
    generalize w1.drew = W1 at *
    obtain ⟨cs, hg, hcs⟩ := Hcells.out W1 l a D q e rfl hd
    have e0 : cs[bi * 6]? = _ := hcs 0 _ rfl
    have q0 := Dr.cell0 (hg.cell e0)
    have q1 := Dr.cell0 (hg.cell (hcs 1 _ rfl))
    have q2 := Dr.cell0 (hg.cell (hcs 2 _ rfl))
    have q3 := Dr.cell0 (hg.cell (hcs 3 _ rfl))
    have q4 := Dr.cell0 (hg.cell (hcs 4 _ rfl))
    have q5 := Dr.cell0 (hg.cell (hcs 5 _ rfl))
    have hltg2 := hg.lt
    by_cases hne : x3 = x2
    · subst hne
      refine Dr.plan_q (l := [_, _, _, _, _, _, _, _, _, _, _, _, _]) rfl (fun K hK => ?_)
      iterate 13 (go_big_quiet_step (fail))
      refine wpQuiet_nil (hK _ ?_); clear hK K
      refine Dr.plan_e rfl (by rfl) (fun K hK => ?_)
      go_wp2_with fail
      refine (C9.out _).mono ?_; rintro r wx ⟨rfl, hbx⟩
      refine hK _ _ (.of hbx) ?_; clear hK K
      have hd2 := hd.ext hbx
      have hB2 := hBd.trans (hbx.mono (Nat.le_trans hPb hBd.size))
      clear q0 q1 q2 q3 q4 q5 e0
      refine Dr.plan_q (l := [_]) rfl (fun K hK => ?_)
      iterate 1 (go_big_quiet_step (fail))
      refine wpQuiet_nil (hK _ ?_); clear hK K
      refine Dr.plan_end rfl ?_
      go_wp2
      go_meet
      case rel => exact ⟨by simp, hd2, hB2⟩
    · have hne' : (x3 != x2) = true := by simp [hne]
      refine Dr.plan_q (l := [_, _, _, _, _, _, _, _, _, _, _, _, _]) rfl (fun K hK => ?_)
      iterate 13 (go_big_quiet_step (fail))
      refine wpQuiet_nil (hK _ ?_); clear hK K
      refine Dr.plan_e_skip rfl (by rfl) ?_
      go_frame
      clear q0 q1 q2 q3 q4 q5 e0
      refine Dr.plan_q (l := [_]) rfl (fun K hK => ?_)
      iterate 1 (go_big_quiet_step (fail))
      refine wpQuiet_nil (hK _ ?_); clear hK K
      refine Dr.plan_end rfl ?_
      go_wp2
      go_meet
      case rel => exact ⟨by simp [hne'], hd, hBd⟩
  case rest =>
  obtain ⟨rfl, h2, hB2⟩ := hcut
  clear h1 hB1
  generalize hcd : (x3 != x2 || br) = cd at *
  go_upto_if 33 with fail
  go_cut [] (fun W => ∃ D' q' e', DeskM base W P A n c (some ⟨g, 0, none⟩) m d D' q' e' { l with diffs := if cd = true then l.diffs ++ [⟨a.bag, x2 - x3, br⟩] else l.diffs } a ∧ Below base w W)
  case first =>
    cases cd
    · go_wp2
      go_meet
      case rel => exact ⟨D, q, e, h2, hB2⟩
    go_upto_region 3 with fail
    generalize hgv : (Value.slice D q e).ownBlock.getD wc.heap.size = gv
    have n1 : P ≠ gv := by
      have hl := h2.blk.lt
      intro e1
      cases hv : (Value.slice D q e).ownBlock with
      | none => rw [hv] at hgv; simp at hgv; omega
      | some kk => rw [hv] at hgv; simp at hgv; exact h2.pd (by rw [hv, hgv, e1])
    have n2 : g ≠ gv := by
      have hl := (h2.ob.lt (k := g) rfl).2
      intro e1
      cases hv : (Value.slice D q e).ownBlock with
      | none => rw [hv] at hgv; simp at hgv; omega
      | some kk => rw [hv] at hgv; simp at hgv; exact h2.bd g rfl (by rw [hv, hgv, e1])
    have hvk : ∀ kk, (Value.slice D q e).ownBlock = some kk → kk = gv := fun kk hv => by rw [hv] at hgv; simpa using hgv
    clear hgv
    refine Dr.wp_region_plan 30 [gv] (.q [0, 1, 2, 3, 4, 5, 6, 7, 8, 9, 10, 11, 12, 13, 14, 15, 16, 17, 18, 19, 20, 21, 22] (.e1 23 (.q [24] (.e1 25 (.e1 26 (.q [27, 28, 29] .done)))))) (by kernel_rfl) (by kernel_rfl) ?_
    have hd := h2.ext (ext_drew wc)
    have hBd : Below base w wc.drew := hB2.drew
    clear h2 hB2
    generalize wc.drew = W1 at *
    obtain ⟨cs, hg, hcs⟩ := Hcells.out W1 l a D q e rfl hd
    have e0 : cs[bi * 6]? = _ := hcs 0 _ rfl
    have q0 := Dr.cls_cell (M := [gv]) (hg.cell e0) (by simp; omega)
    have q1 := Dr.cls_cell (M := [gv]) (hg.cell (hcs 1 _ rfl)) (by simp; omega)
    have q2 := Dr.cls_cell (M := [gv]) (hg.cell (hcs 2 _ rfl)) (by simp; omega)
    have q3 := Dr.cls_cell (M := [gv]) (hg.cell (hcs 3 _ rfl)) (by simp; omega)
    have q4 := Dr.cls_cell (M := [gv]) (hg.cell (hcs 4 _ rfl)) (by simp; omega)
    have q5 := Dr.cls_cell (M := [gv]) (hg.cell (hcs 5 _ rfl)) (by simp; omega)
    have q7 := Dr.cls_cell (M := [gv]) (hd.blk.cell (i := 7) rfl) (by simp; omega)
    have q10 := Dr.cls_cell (M := [gv]) (hd.blk.cell (i := 10) rfl) (by simp; omega)
    have hlt1 := hd.blk.lt
    have hltg2 := hg.lt
    refine Dr.plan_q (l := [_, _, _, _, _, _, _, _, _, _, _, _, _, _, _, _, _, _, _, _, _, _, _]) rfl (fun K hK => ?_)
    iterate 23 (go_big_quiet_step (fail))
    refine wpQuiet_nil (hK _ ?_); clear hK K
    refine Dr.plan_e rfl (by rfl) (fun K hK => ?_)
    go_wp2_with fail
    refine (C9.out _).mono ?_; rintro r W2 ⟨rfl, hbx⟩
    refine hK _ _ (.of hbx) ?_; clear hK K
    have hd2 := hd.ext hbx
    have hB2 := hBd.trans (hbx.mono (Nat.le_trans hPb hBd.size))
    clear q0 q1 q2 q3 q4 q5 q7 q10 e0 hd hBd hbx hg hcs hlt1 hltg2
    refine Dr.plan_q (l := [_]) rfl (fun K hK => ?_)
    iterate 1 (go_big_quiet_step (fail))
    refine wpQuiet_nil (hK _ ?_); clear hK K
    refine Dr.plan_e rfl (by rfl) (fun K hK => ?_)
    go_wp2_with fail
    refine hK _ _ (.of (ext_alloc _ _)) ?_; clear hK K
    have nw := Blk.new W2 76 [.int .i64 a.bag, .int .i64 (x2 - x3), .bool br]
    have hd3 := hd2.ext (ext_alloc W2 (.cells #[.int .i64 a.bag, .int .i64 (x2 - x3), .bool br] 76))
    have hB3 : Below base w (W2.alloc (.cells #[.int .i64 a.bag, .int .i64 (x2 - x3), .bool br] 76)) := hB2.alloc (Nat.le_trans hd2.hP (Nat.le_of_lt hd2.blk.lt)) _
    have hlt2 := hd3.blk.lt
    have hbs := Nat.le_trans hd3.hP (Nat.le_of_lt hlt2)
    have hqc : l.diffs.length = q := hd3.hq
    clear hd2 hB2
    change Blk (W2.alloc (.cells #[.int .i64 a.bag, .int .i64 (x2 - x3), .bool br] 76)) _ _ _ at nw
    generalize W2.alloc (.cells #[.int .i64 a.bag, .int .i64 (x2 - x3), .bool br] 76) = W3 at *
    generalize W2.heap.size = N1 at *
    refine Dr.plan_e rfl (by rfl) (fun K hK => ?_)
    refine wp_app1 Dif.enc 32 76 3 24 et79 (by decide) (by decide) dif_len dif_one _ _ rfl base _ l.diffs rfl hd3.od N1 rfl ⟨a.bag, x2 - x3, br⟩ (fun jj u hu => nw.cell hu) (by rw [hqc]; omega) hbs ?_
    intro g2 c2 X2 ho2 hbl2 hgr2 hat2
    refine hK _ _ (bel_grown hgr2 hvk (by simp)) ?_; clear hK K
    go_frame
    rw [hqc] at ho2 ⊢
    have hfin := hd3.appD ⟨a.bag, x2 - x3, br⟩ ho2 hgr2 hat2 (by omega)
    have hPX := kept_blk hd3.blk hgr2 hd3.pd
    have hB4 := hB3.trans hbl2
    have hPb2 := hd3.hP
    clear hd3 nw hgr2 hat2 ho2 hbl2 hB3
    refine Dr.plan_q (l := [_, _, _]) rfl (fun K hK => ?_)
    iterate 3 (go_big_quiet_step (fail))
    refine wpQuiet_nil (hK _ ?_); clear hK K
    have z1 : X2.cell? ⟨P, 7, none⟩ = _ := hPX.cell (i := 7) rfl
    have f1 := hPX.free 7
    refine Dr.plan_done (tl := [_]) rfl ?_
    go_wp2
    go_meet
    case rel => exact ⟨_, _, _, hfin, hB4.setCell hPb2 _⟩
  case rest =>
    clear h2 hB2
    obtain ⟨D', q', e', h3, hB3⟩ := hcut
    generalize hds : (if cd = true then l.diffs ++ [(⟨a.bag, x2 - x3, br⟩ : Dif)] else l.diffs) = ds at *
    have Hds := Lib.hid hds
    have Hcd := Lib.hid hcd
    clear hds hcd
    obtain ⟨cs, hg, hcs⟩ := Hcells.out wc { l with diffs := ds } a D' q' e' rfl h3
    have z3 : wc.cell? ⟨g, bi * 6 + 3, none⟩ = _ := hg.cell (hcs 3 _ rfl)
    have z12 : wc.cell? ⟨P, 12, none⟩ = _ := h3.blk.cell (i := 12) rfl
    have f12 := h3.blk.free 12
    have hltP := h3.blk.lt
    go_upto_region 5 with fail
    have h4 := h3.put 12 (.int .i64 x3) { l with diffs := ds } { a with amount := x3 } rfl rfl rfl rfl
    have hB4 := hB3.setCell (p := ⟨P, 12, none⟩) h3.hP (.int .i64 x3)
    clear h3 hB3 z3 z12 f12 hg hcs
    generalize wc.setCell ⟨P, 12, none⟩ (.int .i64 x3) = W4 at *
    have hxx := Hx.out
    have C5 := Lib.hid (less_B h4 bi hbi (by show 0 ≤ (l.bags[bi]).holds ∧ (l.bags[bi]).holds ≤ 2000000000000; rw [hxx]; simp only; omega) (by simp only; omega))
    simp only [hxx] at C5
    clear hxx
    go_wp2_with fail
    refine C5.out.mono ?_; rintro r w5 ⟨hb5, ⟨hle5, rfl, h5⟩ | ⟨hle5, rfl⟩⟩
    rotate_left
    · omega
    have hB5 := hB4.trans hb5
    clear h4 hB4 hb5 C5 hle5
    have C6 := Lib.hid (more_P h5 2 l.office { l with diffs := ds, bags := l.bags.set bi ⟨x0, x1, x2, x3 - x3, x4, false⟩, office := l.office + x3 } rfl rfl rfl rfl rfl (by have := Hm.out.o; omega) (by simp only; omega))
    simp only at C6
    go_wp2_with fail
    refine C6.out.mono ?_; rintro r w6 ⟨hb6, ⟨hle6, rfl, h6⟩ | ⟨hle6, rfl⟩⟩
    rotate_left
    · exact ⟨rfl, OpR.bad (hB5.trans hb6) (by rw [Hd1.out, if_pos (by omega)]) (by omega)⟩
    have hB6 := hB5.trans hb6
    clear h5 hB5 hb6 C6
    obtain ⟨cs, hg, hcs⟩ := h6.ob.blkAt bag_len
    have hx5 : cs[bi * 6 + 5]? = some (.bool false) := hcs bi 5 ⟨x0, x1, x2, x3 - x3, x4, false⟩ _ (List.getElem?_set_self hbi) rfl
    have z5 : w6.cell? ⟨g, bi * 6 + 5, none⟩ = _ := hg.cell hx5
    have f5 := hg.free (bi * 6 + 5)
    have hfin := h6.putB (j := 5) hbim (by omega) ⟨x0, x1, x2, 0, x4, true⟩ (.bool true) (by simp [Bag.enc])
    go_wp2
    go_end0
    have hab := Hab.out
    exact OpR.good (hB6.setCell hgb _) (by rw [Hd1.out, if_neg (by omega)]; unfold Led.setBag; rw [show a.bag.toNat = bi by omega, ← Hds.out, ← Hcd.out, List.set_set]) hfin
end
end Go.Proofs.YtnjdlhhgnamigaaGreat

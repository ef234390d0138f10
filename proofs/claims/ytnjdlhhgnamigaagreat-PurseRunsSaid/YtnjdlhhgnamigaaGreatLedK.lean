/- Walk: what an act does: touch. -/
import Derived.Test.YtnjdlhhgnamigaaGreatLedJ
namespace Go.Proofs.YtnjdlhhgnamigaaGreat
open Go.RowKit Go.Bs Go.Pu Go.Pl Go.Sort
section
variable {base : Nat} {w W X : World} {P : Nat} {A : Option Addr} {n c : Nat} {B : Option Addr} {m d : Nat} {D : Option Addr} {q e : Nat} {l : Led} {a : Pu.Act}
theorem DeskM.bagAt (h : DeskM base w P A n c B m d D q e l a) (hb : l.bgB a.bag = true) : ∃ (g bi : Nat) (hbi : bi < l.bags.length), B = some ⟨g, 0, none⟩ ∧ a.bag = bi ∧ bi < m ∧ l.bg a.bag = l.bags[bi] := by
  have h1 : 0 ≤ a.bag ∧ a.bag ≤ (l.bags.length : Int) - 1 := of_decide_eq_true hb
  have hl : a.bag.toNat < l.bags.length := by omega
  obtain ⟨g, cap, hv, -⟩ := h.ob.blk bag_len (by omega)
  cases hv
  exact ⟨g, a.bag.toNat, hl, rfl, by omega, by rw [← h.hm]; exact hl, by unfold Led.bg; simp [hl]⟩
theorem less_B {g : Nat} (h : DeskM base w P A n c (some ⟨g, 0, none⟩) m d D q e l a) (i : Nat) (hi : i < l.bags.length) (h1 : 0 ≤ (l.bags[i]).holds ∧ (l.bags[i]).holds ≤ 2000000000000) (h2 : 0 ≤ a.amount ∧ a.amount ≤ 2000000000000) :
    Calls Tryz.prog 99 #[.pointer (some ⟨P, 0, none⟩), .pointer (some ⟨g, i * 6 + 3, none⟩)] w fun r w' => Below base w w' ∧ ((a.amount ≤ (l.bags[i]).holds ∧ r = .returned (.tuple #[]) ∧ DeskM base w' P A n c (some ⟨g, 0, none⟩) m d D q e { l with bags := l.bags.set i { l.bags[i] with holds := (l.bags[i]).holds - a.amount } } a) ∨ (¬ a.amount ≤ (l.bags[i]).holds ∧ r = .panicked (refused 7))) := by
  have hPb : base ≤ w.heap.size := Nat.le_trans h.hP (Nat.le_of_lt h.blk.lt)
  obtain ⟨cs, hg, hcs⟩ := h.ob.blkAt bag_len
  have hx' : cs[i * 6 + 3]? = some (.int .i64 (l.bags[i]).holds) := hcs i 3 _ _ (List.getElem?_eq_getElem hi) rfl
  have hgb := (h.ob.block_ge rfl g rfl).1
  by_cases hle : a.amount ≤ (l.bags[i]).holds
  · refine (less_t P g (i * 6 + 3) _ a.amount _ 80 _ w h.blk rfl hg hx' h1 h2 hle).mono ?_
    rintro r w' ⟨rfl, W, hb, rfl⟩
    exact ⟨(hb.mono hPb).setCell hgb _, .inl ⟨hle, rfl, (h.ext hb).putB (j := 3) (by rw [← h.hm]; exact hi) (by omega) _ _ rfl⟩⟩
  · refine (less_f P g (i * 6 + 3) _ a.amount _ 80 _ w h.blk rfl hg hx' h1 h2 hle).mono ?_
    rintro r w' ⟨rfl, hb⟩
    exact ⟨hb.mono hPb, .inr ⟨hle, rfl⟩⟩

set_option maxRecDepth 100000 in
set_option maxHeartbeats 1000000 in
theorem touch_c (h : DeskM base w P A n c B m d D q e l a) (hk : a.kind = 5) (hm : l.mon) : Calls Tryz.prog 83 #[.pointer (some ⟨P, 0, none⟩)] w fun r w' => OpR base w P l a r w' := by
  have hd : doL l a = if !l.bgB a.bag || (!sealB a.sl || !monB a.amount) then (Led.zero, 2) else if (l.bg a.bag).opened then (Led.zero, 8) else if l.sealed a.sl (-1) then (Led.zero, 6) else if (l.bg a.bag).holds < a.amount then (Led.zero, 7) else if 1000000000000 < l.out + a.amount then (Led.zero, 3) else ({ l.setBag a.bag { l.bg a.bag with holds := (l.bg a.bag).holds - a.amount, now := a.sl } with out := l.out + a.amount }, 0) := by unfold doL; rw [if_neg (by omega), if_neg (by omega), if_neg (by omega), if_neg (by omega), if_pos hk]
  have Hd := Lib.hid hd
  have hPb : base ≤ w.heap.size := Nat.le_trans h.hP (Nat.le_of_lt h.blk.lt)
  have hB0 : Below base w w := Below.refl _ _
  have h0 := h
  have Hm := Lib.hid hm
  clear hd h hk hm
  go_enter Tryz.func83, Tryz.ntmps83
  have CW := Lib.hid (fun W => within_any a.bag 0 ((m : Int) - 1) W)
  have CS := Lib.hid (fun W => seal_any a.sl W)
  have CM := Lib.hid (fun W => money_any a.amount W)
  have CA := Lib.hid (fun b W => ask_c b 2 W)
  have hbgB : l.bgB a.bag = decide (0 ≤ a.bag ∧ a.bag ≤ (m : Int) - 1) := by unfold Led.bgB; rw [h0.hm]
  rw [← hbgB] at CW
  have hm9 := h0.m9
  go_upto_region 0 with fail
  refine Dr.wp_region_plan 29 [] (.q [0, 1, 2, 3, 4, 5, 6, 7, 8, 9, 10, 11] (.e1 12 (.q [13, 14, 15, 16, 17, 18] (.e1 19 (.q [20, 21, 22, 23, 24, 25, 26] (.e1 27 (.q [28] .done))))))) (by kernel_rfl) (by kernel_rfl) ?_
  have hd := h0.ext (ext_drew w)
  have hBd : Below base w w.drew := hB0.drew
  clear h0 hB0 hbgB
  generalize hWW : w.drew = W at *
  clear hWW
  have q1 := Dr.cell0 (hd.blk.cell (i := 1) rfl)
  have q10 := Dr.cell0 (hd.blk.cell (i := 10) rfl)
  have q11 := Dr.cell0 (hd.blk.cell (i := 11) rfl)
  have q12 := Dr.cell0 (hd.blk.cell (i := 12) rfl)
  have hlt := hd.blk.lt
  refine Dr.plan_q (l := [_, _, _, _, _, _, _, _, _, _, _, _]) rfl (fun K hK => ?_)
  iterate 12 (go_big_quiet_step (fail))
  refine wpQuiet_nil (hK _ ?_); clear hK K
  refine Dr.plan_e rfl (by rfl) (fun K hK => ?_)
  go_wp2_with fail
  refine (CW.out _).mono ?_; rintro r wx ⟨rfl, rfl⟩
  refine hK _ _ (.refl _ _) ?_; clear hK K
  cases hb1 : l.bgB a.bag
  · refine Dr.plan_q (l := [_, _, _, _, _, _]) rfl (fun K hK => ?_)
    iterate 6 (go_big_quiet_step (fail))
    refine wpQuiet_nil (hK _ ?_); clear hK K
    refine Dr.plan_e_skip rfl (by rfl) ?_
    go_frame
    refine Dr.plan_q (l := [_, _, _, _, _, _, _]) rfl (fun K hK => ?_)
    iterate 7 (go_big_quiet_step (fail))
    refine wpQuiet_nil (hK _ ?_); clear hK K
    refine Dr.plan_e_skip rfl (by rfl) ?_
    go_frame
    refine Dr.plan_q (l := [_]) rfl (fun K hK => ?_)
    iterate 1 (go_big_quiet_step (fail))
    refine wpQuiet_nil (hK _ ?_); clear hK K
    refine Dr.plan_done (tl := [_]) rfl ?_
    go_wp2_with fail
    refine (CA.out false _).mono ?_; rintro r wx ⟨rfl, rfl⟩
    exact ⟨rfl, OpR.bad hBd (by rw [Hd.out, hb1]; rfl) (by omega)⟩
  refine Dr.plan_q (l := [_, _, _, _, _, _]) rfl (fun K hK => ?_)
  iterate 6 (go_big_quiet_step (fail))
  refine wpQuiet_nil (hK _ ?_); clear hK K
  refine Dr.plan_e rfl (by rfl) (fun K hK => ?_)
  go_wp2_with fail
  refine (CS.out _).mono ?_; rintro r wx ⟨rfl, rfl⟩
  refine hK _ _ (.refl _ _) ?_; clear hK K
  cases hb2 : sealB a.sl
  · refine Dr.plan_q (l := [_, _, _, _, _, _, _]) rfl (fun K hK => ?_)
    iterate 7 (go_big_quiet_step (fail))
    refine wpQuiet_nil (hK _ ?_); clear hK K
    refine Dr.plan_e_skip rfl (by rfl) ?_
    go_frame
    refine Dr.plan_q (l := [_]) rfl (fun K hK => ?_)
    iterate 1 (go_big_quiet_step (fail))
    refine wpQuiet_nil (hK _ ?_); clear hK K
    refine Dr.plan_done (tl := [_]) rfl ?_
    go_wp2_with fail
    refine (CA.out false _).mono ?_; rintro r wx ⟨rfl, rfl⟩
    exact ⟨rfl, OpR.bad hBd (by rw [Hd.out, hb1, hb2]; rfl) (by omega)⟩
  refine Dr.plan_q (l := [_, _, _, _, _, _, _]) rfl (fun K hK => ?_)
  iterate 7 (go_big_quiet_step (fail))
  refine wpQuiet_nil (hK _ ?_); clear hK K
  refine Dr.plan_e rfl (by rfl) (fun K hK => ?_)
  go_wp2_with fail
  refine (CM.out _).mono ?_; rintro r wx ⟨rfl, rfl⟩
  refine hK _ _ (.refl _ _) ?_; clear hK K
  cases hb3 : monB a.amount
  · refine Dr.plan_q (l := [_]) rfl (fun K hK => ?_)
    iterate 1 (go_big_quiet_step (fail))
    refine wpQuiet_nil (hK _ ?_); clear hK K
    refine Dr.plan_done (tl := [_]) rfl ?_
    go_wp2_with fail
    refine (CA.out false _).mono ?_; rintro r wx ⟨rfl, rfl⟩
    exact ⟨rfl, OpR.bad hBd (by rw [Hd.out, hb1, hb2, hb3]; rfl) (by omega)⟩
  refine Dr.plan_q (l := [_]) rfl (fun K hK => ?_)
  iterate 1 (go_big_quiet_step (fail))
  refine wpQuiet_nil (hK _ ?_); clear hK K
  refine Dr.plan_done (tl := [_]) rfl ?_
  go_wp2_with fail
  refine (CA.out true _).mono ?_; rintro r wx ⟨rfl, rfl⟩
  simp only [askE, if_true]
  clear q1 q10 q11 q12 CW CS CM CA
  obtain ⟨g, bi, hbi, rfl, hab, hbim, hbg⟩ := hd.bagAt hb1
  have ham : 0 ≤ a.amount ∧ a.amount ≤ 2000000000000 := by have h3 : 0 ≤ a.amount ∧ a.amount ≤ 1000000000000 := of_decide_eq_true hb3; omega
  have Hd0 := Lib.hid (show doL l a = if (l.bg a.bag).opened then (Led.zero, 8) else if l.sealed a.sl (-1) then (Led.zero, 6) else if (l.bg a.bag).holds < a.amount then (Led.zero, 7) else if 1000000000000 < l.out + a.amount then (Led.zero, 3) else ({ l.setBag a.bag { l.bg a.bag with holds := (l.bg a.bag).holds - a.amount, now := a.sl } with out := l.out + a.amount }, 0) by rw [Hd.out, hb1, hb2, hb3]; rfl)
  clear Hd
  obtain ⟨bA, bc, hbv, -, -, hbC⟩ := hd.ob.cells bag_len
  rw [hd.hm] at hbv
  cases hbv
  have hbgm : 0 ≤ a.bag ∧ a.bag < m := by omega
  have C1 := Lib.hid (closed_c P A n c g 0 m d _ l a W hd.hm hd.m9 hbC hd.blk hbgm)
  rw [hab, Int.toNat_natCast, Nat.zero_add] at C1
  clear hbC
  go_wp2_with fail
  refine C1.out.mono ?_; rintro r w1 ⟨hb1', rfl⟩
  have h1 := hd.ext hb1'
  have hB1 := hBd.trans (hb1'.mono (Nat.le_trans hPb hBd.size))
  clear hd hBd hb1' C1
  rw [← hab]
  cases hop : (l.bg a.bag).opened
  case true =>
    simp only [if_true]
    exact ⟨rfl, OpR.bad hB1 (by rw [Hd0.out, if_pos hop]) (by omega)⟩
  simp only [Bool.false_eq_true, if_false]
  have Hd1 := Lib.hid (show doL l a = if l.sealed a.sl (-1) then (Led.zero, 6) else if (l.bg a.bag).holds < a.amount then (Led.zero, 7) else if 1000000000000 < l.out + a.amount then (Led.zero, 3) else ({ l.setBag a.bag { l.bg a.bag with holds := (l.bg a.bag).holds - a.amount, now := a.sl } with out := l.out + a.amount }, 0) by rw [Hd0.out, if_neg (by rw [hop]; simp)])
  clear Hd0
  obtain ⟨bA, bc, hbv, -, -, hbC⟩ := h1.ob.cells bag_len
  rw [h1.hm] at hbv
  cases hbv
  have C2 := Lib.hid (fresh_c P A n c _ m d D q e l a w1 h1.hm h1.m9 hbC h1.blk)
  clear hbC
  go_wp2_with fail
  refine C2.out.mono ?_; rintro r w2 ⟨hb2', rfl⟩
  have h2 := h1.ext hb2'
  have hB2 := hB1.trans (hb2'.mono (Nat.le_trans hPb hB1.size))
  clear h1 hb2' C2
  cases hse : l.sealed a.sl (-1)
  case true =>
    simp only [askE, Bool.not_true, Bool.false_eq_true, if_false]
    exact ⟨rfl, OpR.bad hB2 (by rw [Hd1.out, hse]; rfl) (by omega)⟩
  simp only [askE, Bool.not_false, if_true]
  have Hd2 := Lib.hid (show doL l a = if (l.bg a.bag).holds < a.amount then (Led.zero, 7) else if 1000000000000 < l.out + a.amount then (Led.zero, 3) else ({ l.setBag a.bag { l.bg a.bag with holds := (l.bg a.bag).holds - a.amount, now := a.sl } with out := l.out + a.amount }, 0) by rw [Hd1.out, hse]; rfl)
  clear Hd1
  have hhb := Hm.out.h _ (List.getElem_mem hbi)
  have hbh : (l.bg a.bag).holds = (l.bags[bi]).holds := by rw [hbg]
  have Hab := Lib.hid hab
  have Hbg := Lib.hid hbg
  have hltg := (h2.ob.block_ge rfl g rfl).2
  clear hab hbg
  have C3 := Lib.hid (less_B h2 bi hbi (by omega) ham)
  go_wp2_with fail
  refine C3.out.mono ?_; rintro r w3 ⟨hb3, ⟨hle3, rfl, h3⟩ | ⟨hle3, rfl⟩⟩
  rotate_left
  · exact ⟨rfl, OpR.bad (hB2.trans hb3) (by rw [Hd2.out, if_pos (by omega)]) (by omega)⟩
  have hB3 := hB2.trans hb3
  have Hd3 := Lib.hid (show doL l a = if 1000000000000 < l.out + a.amount then (Led.zero, 3) else ({ l.setBag a.bag { l.bg a.bag with holds := (l.bg a.bag).holds - a.amount, now := a.sl } with out := l.out + a.amount }, 0) by rw [Hd2.out, if_neg (by omega)])
  clear h2 hb3 C3 Hd2 hle3
  have C4 := Lib.hid (more_P h3 6 l.out { l with bags := l.bags.set bi { l.bags[bi] with holds := (l.bags[bi]).holds - a.amount }, out := l.out + a.amount } rfl rfl rfl rfl rfl (by have := Hm.out.t; omega) ham)
  go_wp2_with fail
  refine C4.out.mono ?_; rintro r w4 ⟨hb4, ⟨hle4, rfl, h4⟩ | ⟨hle4, rfl⟩⟩
  rotate_left
  · exact ⟨rfl, OpR.bad (hB3.trans hb4) (by rw [Hd3.out, if_pos (by omega)]) (by omega)⟩
  have hB4 := hB3.trans hb4
  have Hd4 := Lib.hid (show doL l a = ({ l.setBag a.bag { l.bg a.bag with holds := (l.bg a.bag).holds - a.amount, now := a.sl } with out := l.out + a.amount }, 0) by rw [Hd3.out, if_neg (by omega)])
  clear h3 hb4 C4 Hd3 hle4
  have hbi2 : bi < (l.bags.set bi { l.bags[bi] with holds := (l.bags[bi]).holds - a.amount }).length := by rw [List.length_set]; exact hbi
  obtain ⟨cs, hg, hcs⟩ := h4.ob.blkAt bag_len
  have hx4 : cs[bi * 6 + 4]? = some (.int .i64 (l.bags[bi]).now) := hcs bi 4 { l.bags[bi] with holds := (l.bags[bi]).holds - a.amount } _ (List.getElem?_set_self hbi) rfl
  have z4 : w4.cell? ⟨g, bi * 6 + 4, none⟩ = _ := hg.cell hx4
  have f4 := hg.free (bi * 6 + 4)
  have z11 : w4.cell? ⟨P, 11, none⟩ = _ := h4.blk.cell (i := 11) rfl
  have hgb := (h4.ob.block_ge rfl g rfl).1
  have hfin := h4.putB (j := 4) hbim (by omega) { l.bags[bi] with holds := (l.bags[bi]).holds - a.amount, now := a.sl } (.int .i64 a.sl) (by simp [Bag.enc])
  go_wp2
  go_end0
  have hab := Hab.out
  have hbg := Hbg.out
  exact OpR.good (hB4.setCell hgb _) (by rw [Hd4.out]; unfold Led.setBag; rw [hbg, show a.bag.toNat = bi by omega, List.set_set]) hfin
end
end Go.Proofs.YtnjdlhhgnamigaaGreat

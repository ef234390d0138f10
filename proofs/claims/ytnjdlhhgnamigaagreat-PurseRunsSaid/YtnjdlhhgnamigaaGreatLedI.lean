/- Walk: what an act does: float, sale, giveBack, deposit, wage. -/
import Derived.Test.YtnjdlhhgnamigaaGreatLedG
namespace Go.Proofs.YtnjdlhhgnamigaaGreat
open Go.RowKit Go.Bs Go.Pu Go.Pl Go.Sort
section
variable {base : Nat} {w : World} {P : Nat} {A : Option Addr} {n c : Nat} {B : Option Addr} {m d : Nat} {D : Option Addr} {q e : Nat} {l : Led} {a : Pu.Act}
theorem DeskM.win (h : DeskM base w P A n c B m d D q e l a) (hw : l.winB a.window = true) : ∃ (g wi : Nat) (x : Int), A = some ⟨g, 0, none⟩ ∧ a.window = wi ∧ wi < n ∧ l.windows[wi]? = some x ∧ l.win a.window = x := by
  have h1 : 0 ≤ a.window ∧ a.window ≤ (l.windows.length : Int) - 1 := of_decide_eq_true hw
  have hl : a.window.toNat < l.windows.length := by omega
  obtain ⟨g, cap, hv, -⟩ := h.ow.blk encI_len (by omega)
  cases hv
  exact ⟨g, a.window.toNat, l.windows[a.window.toNat], rfl, by omega, by rw [← h.hn]; exact hl, by simp [hl], by unfold Led.win; simp [hl]⟩
theorem mon_win (h : l.mon) {i : Nat} {x : Int} (hx : l.windows[i]? = some x) : 0 ≤ x ∧ x ≤ 2000000000000 := by
  have := h.w x (List.mem_of_getElem? hx)
  omega
theorem amB_bd (h : a.amB = true) : 0 ≤ a.amount ∧ a.amount ≤ 2000000000000 := by
  have : 1 ≤ a.amount ∧ a.amount ≤ 1000000000000 := of_decide_eq_true h
  omega

set_option maxRecDepth 100000 in
set_option maxHeartbeats 1000000 in
theorem float_c (h : DeskM base w P A n c B m d D q e l a) (hk : a.kind = 1) (hm : l.mon) : Calls Tryz.prog 79 #[.pointer (some ⟨P, 0, none⟩)] w fun r w' => OpR base w P l a r w' := by
  have hd : doL l a = if (!l.winB a.window || !a.amB) then (Led.zero, 2) else if l.office < a.amount then (Led.zero, 7) else if 1000000000000 < l.win a.window + a.amount then (Led.zero, 3) else ({ l.addW a.window a.amount with office := l.office - a.amount }, 0) := by unfold doL; rw [if_pos hk]
  have Hd := Lib.hid hd
  have hPb : base ≤ w.heap.size := Nat.le_trans h.hP (Nat.le_of_lt h.blk.lt)
  have hB0 : Below base w w := Below.refl _ _
  have h0 := h
  have Hm := Lib.hid hm
  clear hd h hk hm
  go_enter Tryz.func79, Tryz.ntmps79
  have C1 := Lib.hid (window_c P A n c _ _ l a w h0.hn h0.n9 h0.blk)
  go_wp2_with fail
  refine C1.out.mono ?_; rintro r w1 ⟨hb1, rfl⟩
  have h1 := h0.ext hb1
  have hB1 := hB0.trans (hb1.mono (Nat.le_trans hPb hB0.size))
  clear h0 hb1 C1
  cases hw : l.winB a.window
  · simp only [askE, Bool.false_eq_true, if_false]
    exact ⟨rfl, OpR.bad hB1 (by rw [Hd.out, hw]; rfl) (by omega)⟩
  simp only [askE, if_true]
  have C2 := Lib.hid (amount_c P _ _ _ l a w1 h1.blk)
  go_wp2_with fail
  refine C2.out.mono ?_; rintro r w2 ⟨hb2, rfl⟩
  have h2 := h1.ext hb2
  have hB2 := hB1.trans (hb2.mono (Nat.le_trans hPb hB1.size))
  clear h1 hb2 C2
  cases ha : a.amB
  · simp only [askE, Bool.false_eq_true, if_false]
    exact ⟨rfl, OpR.bad hB2 (by rw [Hd.out, hw, ha]; rfl) (by omega)⟩
  simp only [askE, if_true]
  obtain ⟨g, wi, x, rfl, hwi, hwn, hx, hxw⟩ := h2.win hw
  have ham := amB_bd ha
  have Hd0 := Lib.hid (show doL l a = if l.office < a.amount then (Led.zero, 7) else if 1000000000000 < l.win a.window + a.amount then (Led.zero, 3) else ({ l.addW a.window a.amount with office := l.office - a.amount }, 0) by rw [Hd.out, hw, ha]; rfl)
  clear Hd
  have C3 := Lib.hid (less_P h2 2 l.office { l with office := l.office - a.amount } rfl rfl rfl rfl rfl (by have := Hm.out.o; omega) ham)
  go_wp2_with fail
  refine C3.out.mono ?_; rintro r w3 ⟨hb3, ⟨hle3, rfl, h3⟩ | ⟨hle3, rfl⟩⟩
  rotate_left
  · exact ⟨rfl, OpR.bad (hB2.trans hb3) (by rw [Hd0.out, if_pos (by omega)]) (by omega)⟩
  have hB3 := hB2.trans hb3
  have Hd1 := Lib.hid (show doL l a = if 1000000000000 < l.win a.window + a.amount then (Led.zero, 3) else ({ l.addW a.window a.amount with office := l.office - a.amount }, 0) by rw [Hd0.out, if_neg (by omega)])
  clear h2 hb3 C3 Hd0 hle3
  go_upto_region 3 with fail
  refine Dr.wp_region_plan 12 [] (.q [0, 1, 2, 3, 4, 5, 6, 7, 8, 9, 10, 11] .done) (by kernel_rfl) (by kernel_rfl) ?_
  have hd3 := h3.ext (ext_drew w3)
  have hBd3 : Below base w w3.drew := hB3.drew
  clear h3 hB3
  generalize w3.drew = W3 at *
  have q0 := Dr.cell0 (hd3.blk.cell (i := 0) rfl)
  have q1 := Dr.cell0 (hd3.blk.cell (i := 9) rfl)
  have hlt := hd3.blk.lt
  have hwi0 : (0 : Int) ≤ (wi : Int) := by omega
  have hwi1 : (wi : Int) < (n : Int) := by omega
  simp only [hwi] at q0 q1
  refine Dr.plan_q (l := [_, _, _, _, _, _, _, _, _, _, _, _]) rfl (fun K hK => ?_)
  iterate 12 (go_big_quiet_step (fail))
  refine wpQuiet_nil (hK _ ?_); clear hK K
  clear q0 q1 hlt
  refine Dr.plan_done (tl := [_]) rfl ?_
  have C4 := Lib.hid (more_W hd3 wi hwn x hx (mon_win Hm.out hx) ham)
  go_wp2_with fail
  refine C4.out.mono ?_; rintro r w4 ⟨hb4, ⟨hle4, rfl, h4⟩ | ⟨hle4, rfl⟩⟩
  rotate_left
  · exact ⟨rfl, OpR.bad (hBd3.trans hb4) (by rw [Hd1.out, if_pos (by omega)]) (by omega)⟩
  have hB4 := hBd3.trans hb4
  have Hd2 := Lib.hid (show doL l a = ({ l.addW a.window a.amount with office := l.office - a.amount }, 0) by rw [Hd1.out, if_neg (by omega)])
  clear hd3 hb4 C4 Hd1 hle4
  go_wp2
  go_end0
  exact OpR.good hB4 (by rw [Hd2.out]; unfold Led.addW; rw [show l.windows.getD a.window.toNat 0 = x from hxw, show a.window.toNat = wi by omega]) h4

set_option maxRecDepth 100000 in
set_option maxHeartbeats 1000000 in
theorem sale_c (h : DeskM base w P A n c B m d D q e l a) (hk : a.kind = 2) (hm : l.mon) : Calls Tryz.prog 80 #[.pointer (some ⟨P, 0, none⟩)] w fun r w' => OpR base w P l a r w' := by
  have hd : doL l a = if (!l.winB a.window || !a.amB) then (Led.zero, 2) else if 1000000000000 < l.win a.window + a.amount then (Led.zero, 3) else if 1000000000000 < l.inn + a.amount then (Led.zero, 3) else ({ l.addW a.window a.amount with inn := l.inn + a.amount }, 0) := by unfold doL; rw [if_neg (by omega), if_pos hk]
  have Hd := Lib.hid hd
  have hPb : base ≤ w.heap.size := Nat.le_trans h.hP (Nat.le_of_lt h.blk.lt)
  have hB0 : Below base w w := Below.refl _ _
  have h0 := h
  have Hm := Lib.hid hm
  clear hd h hk hm
  go_enter Tryz.func80, Tryz.ntmps80
  have C1 := Lib.hid (window_c P A n c _ _ l a w h0.hn h0.n9 h0.blk)
  go_wp2_with fail
  refine C1.out.mono ?_; rintro r w1 ⟨hb1, rfl⟩
  have h1 := h0.ext hb1
  have hB1 := hB0.trans (hb1.mono (Nat.le_trans hPb hB0.size))
  clear h0 hb1 C1
  cases hw : l.winB a.window
  · simp only [askE, Bool.false_eq_true, if_false]
    exact ⟨rfl, OpR.bad hB1 (by rw [Hd.out, hw]; rfl) (by omega)⟩
  simp only [askE, if_true]
  have C2 := Lib.hid (amount_c P _ _ _ l a w1 h1.blk)
  go_wp2_with fail
  refine C2.out.mono ?_; rintro r w2 ⟨hb2, rfl⟩
  have h2 := h1.ext hb2
  have hB2 := hB1.trans (hb2.mono (Nat.le_trans hPb hB1.size))
  clear h1 hb2 C2
  cases ha : a.amB
  · simp only [askE, Bool.false_eq_true, if_false]
    exact ⟨rfl, OpR.bad hB2 (by rw [Hd.out, hw, ha]; rfl) (by omega)⟩
  simp only [askE, if_true]
  obtain ⟨g, wi, x, rfl, hwi, hwn, hx, hxw⟩ := h2.win hw
  have ham := amB_bd ha
  have Hd0 := Lib.hid (show doL l a = if 1000000000000 < l.win a.window + a.amount then (Led.zero, 3) else if 1000000000000 < l.inn + a.amount then (Led.zero, 3) else ({ l.addW a.window a.amount with inn := l.inn + a.amount }, 0) by rw [Hd.out, hw, ha]; rfl)
  clear Hd
  go_upto_region 2 with fail
  refine Dr.wp_region_plan 12 [] (.q [0, 1, 2, 3, 4, 5, 6, 7, 8, 9, 10, 11] .done) (by kernel_rfl) (by kernel_rfl) ?_
  have hd2 := h2.ext (ext_drew w2)
  have hBd2 : Below base w w2.drew := hB2.drew
  clear h2 hB2
  generalize w2.drew = W2 at *
  have q0 := Dr.cell0 (hd2.blk.cell (i := 0) rfl)
  have q1 := Dr.cell0 (hd2.blk.cell (i := 9) rfl)
  have hlt := hd2.blk.lt
  have hwi0 : (0 : Int) ≤ (wi : Int) := by omega
  have hwi1 : (wi : Int) < (n : Int) := by omega
  simp only [hwi] at q0 q1
  refine Dr.plan_q (l := [_, _, _, _, _, _, _, _, _, _, _, _]) rfl (fun K hK => ?_)
  iterate 12 (go_big_quiet_step (fail))
  refine wpQuiet_nil (hK _ ?_); clear hK K
  clear q0 q1 hlt
  refine Dr.plan_done (tl := [_]) rfl ?_
  have C3 := Lib.hid (more_W hd2 wi hwn x hx (mon_win Hm.out hx) ham)
  go_wp2_with fail
  refine C3.out.mono ?_; rintro r w3 ⟨hb3, ⟨hle3, rfl, h3⟩ | ⟨hle3, rfl⟩⟩
  rotate_left
  · exact ⟨rfl, OpR.bad (hBd2.trans hb3) (by rw [Hd0.out, if_pos (by omega)]) (by omega)⟩
  have hB3 := hBd2.trans hb3
  have Hd1 := Lib.hid (show doL l a = if 1000000000000 < l.inn + a.amount then (Led.zero, 3) else ({ l.addW a.window a.amount with inn := l.inn + a.amount }, 0) by rw [Hd0.out, if_neg (by omega)])
  clear hd2 hb3 C3 Hd0 hle3
  have C4 := Lib.hid (more_P h3 5 l.inn { l with windows := l.windows.set wi (x + a.amount), inn := l.inn + a.amount } rfl rfl rfl rfl rfl (by have := Hm.out.i; omega) ham)
  go_wp2_with fail
  refine C4.out.mono ?_; rintro r w4 ⟨hb4, ⟨hle4, rfl, h4⟩ | ⟨hle4, rfl⟩⟩
  rotate_left
  · exact ⟨rfl, OpR.bad (hB3.trans hb4) (by rw [Hd1.out, if_pos (by omega)]) (by omega)⟩
  have hB4 := hB3.trans hb4
  have Hd2 := Lib.hid (show doL l a = ({ l.addW a.window a.amount with inn := l.inn + a.amount }, 0) by rw [Hd1.out, if_neg (by omega)])
  clear h3 hb4 C4 Hd1 hle4
  go_wp2
  go_end0
  exact OpR.good hB4 (by rw [Hd2.out]; unfold Led.addW; rw [show l.windows.getD a.window.toNat 0 = x from hxw, show a.window.toNat = wi by omega]) h4

set_option maxRecDepth 100000 in
set_option maxHeartbeats 1000000 in
theorem give_c (h : DeskM base w P A n c B m d D q e l a) (hk : a.kind = 3) (hm : l.mon) : Calls Tryz.prog 81 #[.pointer (some ⟨P, 0, none⟩)] w fun r w' => OpR base w P l a r w' := by
  have hd : doL l a = if (!l.winB a.window || !a.amB) then (Led.zero, 2) else if l.win a.window < a.amount then (Led.zero, 7) else if 1000000000000 < l.out + a.amount then (Led.zero, 3) else ({ l.addW a.window (-a.amount) with out := l.out + a.amount }, 0) := by unfold doL; rw [if_neg (by omega), if_neg (by omega), if_pos hk]
  have Hd := Lib.hid hd
  have hPb : base ≤ w.heap.size := Nat.le_trans h.hP (Nat.le_of_lt h.blk.lt)
  have hB0 : Below base w w := Below.refl _ _
  have h0 := h
  have Hm := Lib.hid hm
  clear hd h hk hm
  go_enter Tryz.func81, Tryz.ntmps81
  have C1 := Lib.hid (window_c P A n c _ _ l a w h0.hn h0.n9 h0.blk)
  go_wp2_with fail
  refine C1.out.mono ?_; rintro r w1 ⟨hb1, rfl⟩
  have h1 := h0.ext hb1
  have hB1 := hB0.trans (hb1.mono (Nat.le_trans hPb hB0.size))
  clear h0 hb1 C1
  cases hw : l.winB a.window
  · simp only [askE, Bool.false_eq_true, if_false]
    exact ⟨rfl, OpR.bad hB1 (by rw [Hd.out, hw]; rfl) (by omega)⟩
  simp only [askE, if_true]
  have C2 := Lib.hid (amount_c P _ _ _ l a w1 h1.blk)
  go_wp2_with fail
  refine C2.out.mono ?_; rintro r w2 ⟨hb2, rfl⟩
  have h2 := h1.ext hb2
  have hB2 := hB1.trans (hb2.mono (Nat.le_trans hPb hB1.size))
  clear h1 hb2 C2
  cases ha : a.amB
  · simp only [askE, Bool.false_eq_true, if_false]
    exact ⟨rfl, OpR.bad hB2 (by rw [Hd.out, hw, ha]; rfl) (by omega)⟩
  simp only [askE, if_true]
  obtain ⟨g, wi, x, rfl, hwi, hwn, hx, hxw⟩ := h2.win hw
  have ham := amB_bd ha
  have Hd0 := Lib.hid (show doL l a = if l.win a.window < a.amount then (Led.zero, 7) else if 1000000000000 < l.out + a.amount then (Led.zero, 3) else ({ l.addW a.window (-a.amount) with out := l.out + a.amount }, 0) by rw [Hd.out, hw, ha]; rfl)
  clear Hd
  go_upto_region 2 with fail
  refine Dr.wp_region_plan 12 [] (.q [0, 1, 2, 3, 4, 5, 6, 7, 8, 9, 10, 11] .done) (by kernel_rfl) (by kernel_rfl) ?_
  have hd2 := h2.ext (ext_drew w2)
  have hBd2 : Below base w w2.drew := hB2.drew
  clear h2 hB2
  generalize w2.drew = W2 at *
  have q0 := Dr.cell0 (hd2.blk.cell (i := 0) rfl)
  have q1 := Dr.cell0 (hd2.blk.cell (i := 9) rfl)
  have hlt := hd2.blk.lt
  have hwi0 : (0 : Int) ≤ (wi : Int) := by omega
  have hwi1 : (wi : Int) < (n : Int) := by omega
  simp only [hwi] at q0 q1
  refine Dr.plan_q (l := [_, _, _, _, _, _, _, _, _, _, _, _]) rfl (fun K hK => ?_)
  iterate 12 (go_big_quiet_step (fail))
  refine wpQuiet_nil (hK _ ?_); clear hK K
  clear q0 q1 hlt
  refine Dr.plan_done (tl := [_]) rfl ?_
  have C3 := Lib.hid (less_W hd2 wi hwn x hx (mon_win Hm.out hx) ham)
  go_wp2_with fail
  refine C3.out.mono ?_; rintro r w3 ⟨hb3, ⟨hle3, rfl, h3⟩ | ⟨hle3, rfl⟩⟩
  rotate_left
  · exact ⟨rfl, OpR.bad (hBd2.trans hb3) (by rw [Hd0.out, if_pos (by omega)]) (by omega)⟩
  have hB3 := hBd2.trans hb3
  have Hd1 := Lib.hid (show doL l a = if 1000000000000 < l.out + a.amount then (Led.zero, 3) else ({ l.addW a.window (-a.amount) with out := l.out + a.amount }, 0) by rw [Hd0.out, if_neg (by omega)])
  clear hd2 hb3 C3 Hd0 hle3
  have C4 := Lib.hid (more_P h3 6 l.out { l with windows := l.windows.set wi (x - a.amount), out := l.out + a.amount } rfl rfl rfl rfl rfl (by have := Hm.out.t; omega) ham)
  go_wp2_with fail
  refine C4.out.mono ?_; rintro r w4 ⟨hb4, ⟨hle4, rfl, h4⟩ | ⟨hle4, rfl⟩⟩
  rotate_left
  · exact ⟨rfl, OpR.bad (hB3.trans hb4) (by rw [Hd1.out, if_pos (by omega)]) (by omega)⟩
  have hB4 := hB3.trans hb4
  have Hd2 := Lib.hid (show doL l a = ({ l.addW a.window (-a.amount) with out := l.out + a.amount }, 0) by rw [Hd1.out, if_neg (by omega)])
  clear h3 hb4 C4 Hd1 hle4
  go_wp2
  go_end0
  exact OpR.good hB4 (by rw [Hd2.out]; unfold Led.addW; rw [show l.windows.getD a.window.toNat 0 = x from hxw, show a.window.toNat = wi by omega]; rfl) h4

set_option maxRecDepth 100000 in
set_option maxHeartbeats 1000000 in
theorem deposit_c (h : DeskM base w P A n c B m d D q e l a) (hk : a.kind = 7) (hm : l.mon) : Calls Tryz.prog 85 #[.pointer (some ⟨P, 0, none⟩)] w fun r w' => OpR base w P l a r w' := by
  have hd : doL l a = if !a.amB then (Led.zero, 2) else if l.office < a.amount then (Led.zero, 7) else if 1000000000000 < l.bank + a.amount then (Led.zero, 3) else ({ l with office := l.office - a.amount, bank := l.bank + a.amount }, 0) := by unfold doL; rw [if_neg (by omega), if_neg (by omega), if_neg (by omega), if_neg (by omega), if_neg (by omega), if_neg (by omega), if_pos hk]
  have Hd := Lib.hid hd
  have hPb : base ≤ w.heap.size := Nat.le_trans h.hP (Nat.le_of_lt h.blk.lt)
  have hB0 : Below base w w := Below.refl _ _
  have h0 := h
  have Hm := Lib.hid hm
  clear hd h hk hm
  go_enter Tryz.func85, Tryz.ntmps85
  have C1 := Lib.hid (amount_c P _ _ _ l a w h0.blk)
  go_wp2_with fail
  refine C1.out.mono ?_; rintro r w1 ⟨hb1, rfl⟩
  have h1 := h0.ext hb1
  have hB1 := hB0.trans (hb1.mono (Nat.le_trans hPb hB0.size))
  clear h0 hb1 C1
  cases ha : a.amB
  · simp only [askE, Bool.false_eq_true, if_false]
    exact ⟨rfl, OpR.bad hB1 (by rw [Hd.out, ha]; rfl) (by omega)⟩
  simp only [askE, if_true]
  have ham := amB_bd ha
  have Hd0 := Lib.hid (show doL l a = if l.office < a.amount then (Led.zero, 7) else if 1000000000000 < l.bank + a.amount then (Led.zero, 3) else ({ l with office := l.office - a.amount, bank := l.bank + a.amount }, 0) by rw [Hd.out, ha]; rfl)
  clear Hd
  have C2 := Lib.hid (less_P h1 2 l.office { l with office := l.office - a.amount } rfl rfl rfl rfl rfl (by have := Hm.out.o; omega) ham)
  go_wp2_with fail
  refine C2.out.mono ?_; rintro r w2 ⟨hb2, ⟨hle2, rfl, h2⟩ | ⟨hle2, rfl⟩⟩
  rotate_left
  · exact ⟨rfl, OpR.bad (hB1.trans hb2) (by rw [Hd0.out, if_pos (by omega)]) (by omega)⟩
  have hB2 := hB1.trans hb2
  have Hd1 := Lib.hid (show doL l a = if 1000000000000 < l.bank + a.amount then (Led.zero, 3) else ({ l with office := l.office - a.amount, bank := l.bank + a.amount }, 0) by rw [Hd0.out, if_neg (by omega)])
  clear h1 hb2 C2 Hd0 hle2
  have C3 := Lib.hid (more_P h2 3 l.bank { l with office := l.office - a.amount, bank := l.bank + a.amount } rfl rfl rfl rfl rfl (by have := Hm.out.k; omega) ham)
  go_wp2_with fail
  refine C3.out.mono ?_; rintro r w3 ⟨hb3, ⟨hle3, rfl, h3⟩ | ⟨hle3, rfl⟩⟩
  rotate_left
  · exact ⟨rfl, OpR.bad (hB2.trans hb3) (by rw [Hd1.out, if_pos (by omega)]) (by omega)⟩
  have hB3 := hB2.trans hb3
  have Hd2 := Lib.hid (show doL l a = ({ l with office := l.office - a.amount, bank := l.bank + a.amount }, 0) by rw [Hd1.out, if_neg (by omega)])
  clear h2 hb3 C3 Hd1 hle3
  go_wp2
  go_end0
  exact OpR.good hB3 (by rw [Hd2.out]) h3

set_option maxRecDepth 100000 in
set_option maxHeartbeats 1000000 in
theorem wage_c (h : DeskM base w P A n c B m d D q e l a) (hk : a.kind = 8) (hm : l.mon) : Calls Tryz.prog 86 #[.pointer (some ⟨P, 0, none⟩)] w fun r w' => OpR base w P l a r w' := by
  have hd : doL l a = if !a.amB then (Led.zero, 2) else if l.bank < a.amount then (Led.zero, 7) else if 1000000000000 < l.out + a.amount then (Led.zero, 3) else ({ l with bank := l.bank - a.amount, out := l.out + a.amount }, 0) := by unfold doL; rw [if_neg (by omega), if_neg (by omega), if_neg (by omega), if_neg (by omega), if_neg (by omega), if_neg (by omega), if_neg (by omega), if_pos hk]
  have Hd := Lib.hid hd
  have hPb : base ≤ w.heap.size := Nat.le_trans h.hP (Nat.le_of_lt h.blk.lt)
  have hB0 : Below base w w := Below.refl _ _
  have h0 := h
  have Hm := Lib.hid hm
  clear hd h hk hm
  go_enter Tryz.func86, Tryz.ntmps86
  have C1 := Lib.hid (amount_c P _ _ _ l a w h0.blk)
  go_wp2_with fail
  refine C1.out.mono ?_; rintro r w1 ⟨hb1, rfl⟩
  have h1 := h0.ext hb1
  have hB1 := hB0.trans (hb1.mono (Nat.le_trans hPb hB0.size))
  clear h0 hb1 C1
  cases ha : a.amB
  · simp only [askE, Bool.false_eq_true, if_false]
    exact ⟨rfl, OpR.bad hB1 (by rw [Hd.out, ha]; rfl) (by omega)⟩
  simp only [askE, if_true]
  have ham := amB_bd ha
  have Hd0 := Lib.hid (show doL l a = if l.bank < a.amount then (Led.zero, 7) else if 1000000000000 < l.out + a.amount then (Led.zero, 3) else ({ l with bank := l.bank - a.amount, out := l.out + a.amount }, 0) by rw [Hd.out, ha]; rfl)
  clear Hd
  have C2 := Lib.hid (less_P h1 3 l.bank { l with bank := l.bank - a.amount } rfl rfl rfl rfl rfl (by have := Hm.out.k; omega) ham)
  go_wp2_with fail
  refine C2.out.mono ?_; rintro r w2 ⟨hb2, ⟨hle2, rfl, h2⟩ | ⟨hle2, rfl⟩⟩
  rotate_left
  · exact ⟨rfl, OpR.bad (hB1.trans hb2) (by rw [Hd0.out, if_pos (by omega)]) (by omega)⟩
  have hB2 := hB1.trans hb2
  have Hd1 := Lib.hid (show doL l a = if 1000000000000 < l.out + a.amount then (Led.zero, 3) else ({ l with bank := l.bank - a.amount, out := l.out + a.amount }, 0) by rw [Hd0.out, if_neg (by omega)])
  clear h1 hb2 C2 Hd0 hle2
  have C3 := Lib.hid (more_P h2 6 l.out { l with bank := l.bank - a.amount, out := l.out + a.amount } rfl rfl rfl rfl rfl (by have := Hm.out.t; omega) ham)
  go_wp2_with fail
  refine C3.out.mono ?_; rintro r w3 ⟨hb3, ⟨hle3, rfl, h3⟩ | ⟨hle3, rfl⟩⟩
  rotate_left
  · exact ⟨rfl, OpR.bad (hB2.trans hb3) (by rw [Hd1.out, if_pos (by omega)]) (by omega)⟩
  have hB3 := hB2.trans hb3
  have Hd2 := Lib.hid (show doL l a = ({ l with bank := l.bank - a.amount, out := l.out + a.amount }, 0) by rw [Hd1.out, if_neg (by omega)])
  clear h2 hb3 C3 Hd1 hle3
  go_wp2
  go_end0
  exact OpR.good hB3 (by rw [Hd2.out]) h3
end
end Go.Proofs.YtnjdlhhgnamigaaGreat

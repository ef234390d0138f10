/- Walk: what an act does: pack. -/
import Derived.Test.YtnjdlhhgnamigaaGreatLedI
namespace Go.Proofs.YtnjdlhhgnamigaaGreat
open Go.RowKit Go.Bs Go.Pu Go.Pl Go.Sort
section
variable {base : Nat} {w W X : World} {P : Nat} {A : Option Addr} {n c : Nat} {B : Option Addr} {m d : Nat} {D : Option Addr} {q e : Nat} {l : Led} {a : Pu.Act}
theorem kept_blk {T : Nat} {cs : List Value} {row : Option Nat} (h : Blk W P T cs) (hg : W.grownBy X row) (hr : row ≠ some P) : Blk X P T cs :=
  (hg.block P h.lt (fun e => hr e.symm)).trans h
theorem own_kept {α : Type} {e1 : TypeId} {sz : Nat} {enc : α → List Value} {v : Value} {r : List α} {row : Option Nat} (h : OwnL W base e1 sz enc v r) (hg : W.grownBy X row) (hr : ∀ k, v.ownBlock = some k → row ≠ some k) : OwnL X base e1 sz enc v r := by
  refine h.kept hg ?_
  cases hv : v.ownBlock with
  | none => exact .inl rfl
  | some k => exact .inr (fun e => hr k hv e.symm)
/-- a bag is added -/
theorem DeskM.appB (h : DeskM base W P A n c B m d D q e l a) {g c2 : Nat} (x : Bag) (ho : OwnL X base 80 6 Bag.enc (.slice (some ⟨g, 0, none⟩) (m + 1) c2) (l.bags ++ [x])) (hg : W.grownBy X (Value.slice B m d).ownBlock) (hat : (Value.slice B m d).ownBlock = some g ∨ g = W.heap.size) (h9 : m + 1 ≤ 1000) :
    DeskM base (X.setCell ⟨P, 1, none⟩ (.slice (some ⟨g, 0, none⟩) (m + 1) c2)) P A n c (some ⟨g, 0, none⟩) (m + 1) c2 D q e { l with bags := l.bags ++ [x] } a := by
  have hPl := h.blk.lt
  have gP : g ≠ P := fun e => by rcases hat with h1 | h1
                                 · exact h.pb (by rw [h1, e])
                                 · omega
  refine ⟨(kept_blk h.blk hg h.pb).set 1 _, h.hn, by simp [h.hm], h.hq, h.n9, h9, h.q9, (own_kept h.ow hg (fun k hk => h.wb k hk)).put h.pw _, ho.put (fun e => gP (by cases e; rfl)) _, (own_kept h.od hg (fun k hk e => h.bd k e hk)).put h.pd _, h.pw, fun e => gP (by cases e; rfl), h.pd, ?_, h.wd, ?_, h.hP⟩
  · rintro k hk e
    cases e
    rcases hat with h1 | h1
    · exact h.wb g hk h1
    · have h2 := (h.ow.lt (k := g) hk).2; omega
  · rintro k hk e
    cases hk
    rcases hat with h1 | h1
    · exact h.bd g h1 e
    · have h2 := (h.od.lt (k := g) e).2; omega
/-- a difference is added -/
theorem DeskM.appD (h : DeskM base W P A n c B m d D q e l a) {g c2 : Nat} (x : Dif) (ho : OwnL X base 76 3 Dif.enc (.slice (some ⟨g, 0, none⟩) (q + 1) c2) (l.diffs ++ [x])) (hg : W.grownBy X (Value.slice D q e).ownBlock) (hat : (Value.slice D q e).ownBlock = some g ∨ g = W.heap.size) (h9 : q + 1 ≤ 1000) :
    DeskM base (X.setCell ⟨P, 7, none⟩ (.slice (some ⟨g, 0, none⟩) (q + 1) c2)) P A n c B m d (some ⟨g, 0, none⟩) (q + 1) c2 { l with diffs := l.diffs ++ [x] } a := by
  have hPl := h.blk.lt
  have gP : g ≠ P := fun e => by rcases hat with h1 | h1
                                 · exact h.pd (by rw [h1, e])
                                 · omega
  refine ⟨(kept_blk h.blk hg h.pd).set 7 _, h.hn, h.hm, by simp [h.hq], h.n9, h.m9, h9, (own_kept h.ow hg (fun k hk => h.wd k hk)).put h.pw _, (own_kept h.ob hg (fun k hk => h.bd k hk)).put h.pb _, ho.put (fun e => gP (by cases e; rfl)) _, h.pw, h.pb, fun e => gP (by cases e; rfl), h.wb, ?_, ?_, h.hP⟩
  · rintro k hk e
    cases e
    rcases hat with h1 | h1
    · exact h.wd g hk h1
    · have h2 := (h.ow.lt (k := g) hk).2; omega
  · rintro k hk e
    cases e
    rcases hat with h1 | h1
    · exact h.bd g hk h1
    · have h2 := (h.ob.lt (k := g) hk).2; omega

set_option maxRecDepth 100000 in
set_option maxHeartbeats 1000000 in
theorem pack_c (h : DeskM base w P A n c B m d D q e l a) (hk : a.kind = 4) (hm : l.mon) : Calls Tryz.prog 82 #[.pointer (some ⟨P, 0, none⟩)] w fun r w' => OpR base w P l a r w' := by
  have hd : doL l a = if !l.winB a.window || (!sealB a.sl || (!a.amB || !monB a.written)) then (Led.zero, 2) else if 100 ≤ l.bags.length then (Led.zero, 3) else if l.sealed a.sl (-1) then (Led.zero, 6) else if l.win a.window < a.amount then (Led.zero, 7) else ({ l.addW a.window (-a.amount) with bags := l.bags ++ [⟨a.window, a.sl, a.written, a.amount, a.sl, false⟩] }, 0) := by unfold doL; rw [if_neg (by omega), if_neg (by omega), if_neg (by omega), if_pos hk]
  have Hd := Lib.hid hd
  have hPb : base ≤ w.heap.size := Nat.le_trans h.hP (Nat.le_of_lt h.blk.lt)
  have hB0 : Below base w w := Below.refl _ _
  have h0 := h
  have Hm := Lib.hid hm
  clear hd h hk hm
  go_enter Tryz.func82, Tryz.ntmps82
  have C1 := Lib.hid (window_c P A n c _ _ l a w h0.hn h0.n9 h0.blk)
  go_wp2_with fail
  refine C1.out.mono ?_; rintro r w1 ⟨hb1, rfl⟩
  have h1 := h0.ext hb1
  have hB1 := hB0.trans (hb1.mono (Nat.le_trans hPb hB0.size))
  clear h0 hb1 C1
  cases hw : l.winB a.window
  · simp only [askE, Bool.false_eq_true, if_false]
    exact ⟨rfl, OpR.bad hB1 (by rw [Hd.out, hw]; rfl) (by omega)⟩
  simp only [askE, if_true]
  have c11 : w1.cell? ⟨P, 11, none⟩ = _ := h1.blk.cell (i := 11) rfl
  have hlt := h1.blk.lt
  have CV2 := Lib.hid (fun W => seal_any a.sl W)
  have CA2 := Lib.hid (fun b W => ask_c b 2 W)
  go_wp2_with fail
  refine (CV2.out _).mono ?_; rintro r wx ⟨rfl, rfl⟩
  go_wp2_with fail
  refine (CA2.out (sealB a.sl) _).mono ?_; rintro r wx ⟨rfl, rfl⟩
  clear c11 hlt CV2 CA2
  cases hsl : sealB a.sl
  · simp only [askE, Bool.false_eq_true, if_false]
    exact ⟨rfl, OpR.bad hB1 (by rw [Hd.out, hw, hsl]; rfl) (by omega)⟩
  simp only [askE, if_true]
  have C2 := Lib.hid (amount_c P _ _ _ l a w1 h1.blk)
  go_wp2_with fail
  refine C2.out.mono ?_; rintro r w2 ⟨hb2, rfl⟩
  have h2 := h1.ext hb2
  have hB2 := hB1.trans (hb2.mono (Nat.le_trans hPb hB1.size))
  clear h1 hb2 C2
  cases ha : a.amB
  · simp only [askE, Bool.false_eq_true, if_false]
    exact ⟨rfl, OpR.bad hB2 (by rw [Hd.out, hw, hsl, ha]; rfl) (by omega)⟩
  simp only [askE, if_true]
  have c13 : w2.cell? ⟨P, 13, none⟩ = _ := h2.blk.cell (i := 13) rfl
  have hlt := h2.blk.lt
  have CV3 := Lib.hid (fun W => money_any a.written W)
  have CA3 := Lib.hid (fun b W => ask_c b 2 W)
  go_wp2_with fail
  refine (CV3.out _).mono ?_; rintro r wx ⟨rfl, rfl⟩
  go_wp2_with fail
  refine (CA3.out (monB a.written) _).mono ?_; rintro r wx ⟨rfl, rfl⟩
  clear c13 hlt CV3 CA3
  cases hwr : monB a.written
  · simp only [askE, Bool.false_eq_true, if_false]
    exact ⟨rfl, OpR.bad hB2 (by rw [Hd.out, hw, hsl, ha, hwr]; rfl) (by omega)⟩
  simp only [askE, if_true]
  obtain ⟨g, wi, x, rfl, hwi, hwn, hx, hxw⟩ := h2.win hw
  have ham := amB_bd ha
  have Hd0 := Lib.hid (show doL l a = if 100 ≤ l.bags.length then (Led.zero, 3) else if l.sealed a.sl (-1) then (Led.zero, 6) else if l.win a.window < a.amount then (Led.zero, 7) else ({ l.addW a.window (-a.amount) with bags := l.bags ++ [⟨a.window, a.sl, a.written, a.amount, a.sl, false⟩] }, 0) by rw [Hd.out, hw, hsl, ha, hwr]; rfl)
  clear Hd
  have hmc : l.bags.length = m := h2.hm
  have c1 : w2.cell? ⟨P, 1, none⟩ = _ := h2.blk.cell (i := 1) rfl
  have hlt := h2.blk.lt
  have CA9 := Lib.hid (fun b W => ask_c b 3 W)
  go_wp2_with fail
  refine (CA9.out (decide ((m : Int) < 100)) _).mono ?_; rintro r wx ⟨rfl, rfl⟩
  clear c1 hlt CA9
  by_cases hm100 : (m : Int) < 100
  case neg =>
    rw [decide_eq_false hm100]
    simp only [askE, Bool.false_eq_true, if_false]
    exact ⟨rfl, OpR.bad hB2 (by rw [Hd0.out, if_pos (by omega)]) (by omega)⟩
  rw [decide_eq_true hm100]
  simp only [askE, if_true]
  have Hd1 := Lib.hid (show doL l a = if l.sealed a.sl (-1) then (Led.zero, 6) else if l.win a.window < a.amount then (Led.zero, 7) else ({ l.addW a.window (-a.amount) with bags := l.bags ++ [⟨a.window, a.sl, a.written, a.amount, a.sl, false⟩] }, 0) by rw [Hd0.out, if_neg (by omega)])
  clear Hd0
  obtain ⟨bA, bc, hbv, -, -, hbC⟩ := h2.ob.cells bag_len
  have C3 := Lib.hid (fresh_c P (some ⟨g, 0, none⟩) n c B m d D q e l a w2 h2.hm h2.m9 (by rw [hmc] at hbv; cases hbv; exact hbC) h2.blk)
  clear hbv hbC
  go_wp2_with fail
  refine C3.out.mono ?_; rintro r w3 ⟨hb3, rfl⟩
  have h3 := h2.ext hb3
  have hB3 := hB2.trans (hb3.mono (Nat.le_trans hPb hB2.size))
  clear h2 hb3 C3
  cases hse : l.sealed a.sl (-1)
  case true =>
    simp only [askE, Bool.not_true, Bool.false_eq_true, if_false]
    exact ⟨rfl, OpR.bad hB3 (by rw [Hd1.out, hse]; rfl) (by omega)⟩
  simp only [askE, Bool.not_false, if_true]
  have Hd2 := Lib.hid (show doL l a = if l.win a.window < a.amount then (Led.zero, 7) else ({ l.addW a.window (-a.amount) with bags := l.bags ++ [⟨a.window, a.sl, a.written, a.amount, a.sl, false⟩] }, 0) by rw [Hd1.out, hse]; rfl)
  clear Hd1
  go_upto_region 6 with fail
  refine Dr.wp_region_plan 12 [] (.q [0, 1, 2, 3, 4, 5, 6, 7, 8, 9, 10, 11] .done) (by kernel_rfl) (by kernel_rfl) ?_
  have hd3 := h3.ext (ext_drew w3)
  have hBd3 : Below base w w3.drew := hB3.drew
  clear h3 hB3
  generalize w3.drew = W3 at *
  have q0 := Dr.cell0 (hd3.blk.cell (i := 0) rfl)
  have q1 := Dr.cell0 (hd3.blk.cell (i := 9) rfl)
  have hlt := hd3.blk.lt
  have hwi0 : (0 : Int) ≤ (wi : Int) := by omega
  have hwi1 : (wi : Int) < (n : Int) := by omega
  simp only [hwi] at q0 q1
  refine Dr.plan_q (l := [_, _, _, _, _, _, _, _, _, _, _, _]) rfl (fun K hK => ?_)
  iterate 12 (go_big_quiet_step (fail))
  refine wpQuiet_nil (hK _ ?_); clear hK K
  clear q0 q1 hlt
  refine Dr.plan_done (tl := [_]) rfl ?_
  have C4 := Lib.hid (less_W hd3 wi hwn x hx (mon_win Hm.out hx) ham)
  go_wp2_with fail
  refine C4.out.mono ?_; rintro r w4 ⟨hb4, ⟨hle4, rfl, h4⟩ | ⟨hle4, rfl⟩⟩
  rotate_left
  · exact ⟨rfl, OpR.bad (hBd3.trans hb4) (by rw [Hd2.out, if_pos (by omega)]) (by omega)⟩
  have hB4 := hBd3.trans hb4
  have Hd3 := Lib.hid (show doL l a = ({ l.addW a.window (-a.amount) with bags := l.bags ++ [⟨a.window, a.sl, a.written, a.amount, a.sl, false⟩] }, 0) by rw [Hd2.out, if_neg (by omega)])
  clear hd3 hb4 C4 Hd2 hle4
  go_upto_region 7 with fail
  have Hwi := Lib.hid hwi
  clear hwi
  have hob := h4.ob
  generalize hgv : (Value.slice B m d).ownBlock.getD w4.heap.size = gv
  have n1 : P ≠ gv := by
    have hl := h4.blk.lt
    intro e1
    cases hv : (Value.slice B m d).ownBlock with
    | none => rw [hv] at hgv; simp at hgv; omega
    | some kk => rw [hv] at hgv; simp at hgv; exact h4.pb (by rw [hv, hgv, e1])
  have hvk : ∀ kk, (Value.slice B m d).ownBlock = some kk → kk = gv := fun kk hv => by rw [hv] at hgv; simpa using hgv
  clear hgv hob
  refine Dr.wp_region_plan 37 [gv] (.q [0, 1, 2, 3, 4, 5, 6, 7, 8, 9, 10, 11, 12, 13, 14, 15, 16, 17, 18, 19, 20, 21, 22, 23, 24, 25, 26, 27, 28, 29, 30, 31] (.e1 32 (.e1 33 (.q [34, 35, 36] .done)))) (by kernel_rfl) (by kernel_rfl) ?_
  have hd := h4.ext (ext_drew w4)
  have hBd : Below base w w4.drew := hB4.drew
  clear h4 hB4
  generalize w4.drew = W at *
  have q1 := Dr.cls_cell (M := [gv]) (hd.blk.cell (i := 1) rfl) (by simp; omega)
  have q9 := Dr.cls_cell (M := [gv]) (hd.blk.cell (i := 9) rfl) (by simp; omega)
  have q11 := Dr.cls_cell (M := [gv]) (hd.blk.cell (i := 11) rfl) (by simp; omega)
  have q12 := Dr.cls_cell (M := [gv]) (hd.blk.cell (i := 12) rfl) (by simp; omega)
  have q13 := Dr.cls_cell (M := [gv]) (hd.blk.cell (i := 13) rfl) (by simp; omega)
  have hlt := hd.blk.lt
  refine Dr.plan_q (l := [_, _, _, _, _, _, _, _, _, _, _, _, _, _, _, _, _, _, _, _, _, _, _, _, _, _, _, _, _, _, _, _]) rfl (fun K hK => ?_)
  iterate 32 (go_big_quiet_step (fail))
  refine wpQuiet_nil (hK _ ?_); clear hK K
  clear q1 q9 q11 q12 q13
  refine Dr.plan_e rfl (by rfl) (fun K hK => ?_)
  go_wp2_with fail
  refine hK _ _ (.of (ext_alloc _ _)) ?_; clear hK K
  have nw := Blk.new W 80 (Bag.enc ⟨a.window, a.sl, a.written, a.amount, a.sl, false⟩)
  have hd2 := hd.ext (ext_alloc W (.cells (Bag.enc ⟨a.window, a.sl, a.written, a.amount, a.sl, false⟩).toArray 80))
  have hB2 : Below base w (W.alloc (.cells (Bag.enc ⟨a.window, a.sl, a.written, a.amount, a.sl, false⟩).toArray 80)) := hBd.alloc (Nat.le_trans hd.hP (Nat.le_of_lt hlt)) _
  have hlt2 := hd2.blk.lt
  have hbs := Nat.le_trans hd2.hP (Nat.le_of_lt hlt2)
  clear hd hBd hlt
  change Blk (W.alloc (.cells #[.int .i64 a.window, .int .i64 a.sl, .int .i64 a.written, .int .i64 a.amount, .int .i64 a.sl, .bool false] 80)) _ _ _ at nw
  change DeskM base (W.alloc (.cells #[.int .i64 a.window, .int .i64 a.sl, .int .i64 a.written, .int .i64 a.amount, .int .i64 a.sl, .bool false] 80)) _ _ _ _ _ _ _ _ _ _ _ _ at hd2
  change Below base w (W.alloc (.cells #[.int .i64 a.window, .int .i64 a.sl, .int .i64 a.written, .int .i64 a.amount, .int .i64 a.sl, .bool false] 80)) at hB2
  change base ≤ (W.alloc (.cells #[.int .i64 a.window, .int .i64 a.sl, .int .i64 a.written, .int .i64 a.amount, .int .i64 a.sl, .bool false] 80)).heap.size at hbs
  generalize W.alloc (.cells #[.int .i64 a.window, .int .i64 a.sl, .int .i64 a.written, .int .i64 a.amount, .int .i64 a.sl, .bool false] 80) = W1 at *
  generalize W.heap.size = N1 at *
  refine Dr.plan_e rfl (by rfl) (fun K hK => ?_)
  refine wp_app1 Bag.enc 31 80 6 48 et78 (by decide) (by decide) bag_len bag_one _ _ rfl base _ l.bags rfl hd2.ob N1 rfl ⟨a.window, a.sl, a.written, a.amount, a.sl, false⟩ (fun jj u hu => nw.cell hu) (by rw [hmc]; omega) hbs ?_
  intro g2 c2 X2 ho2 hbl2 hgr2 hat2
  refine hK _ _ (bel_grown hgr2 hvk (by simp)) ?_; clear hK K
  go_frame
  rw [hmc] at ho2 ⊢
  have hfin := hd2.appB ⟨a.window, a.sl, a.written, a.amount, a.sl, false⟩ ho2 hgr2 hat2 (by omega)
  have hPX := kept_blk hd2.blk hgr2 hd2.pb
  have hB3 := hB2.trans hbl2
  have hPb2 := hd2.hP
  clear hd2 nw hgr2 hat2 ho2 hbl2 hB2
  refine Dr.plan_q (l := [_, _, _]) rfl (fun K hK => ?_)
  iterate 3 (go_big_quiet_step (fail))
  refine wpQuiet_nil (hK _ ?_); clear hK K
  have z1 : X2.cell? ⟨P, 1, none⟩ = _ := hPX.cell (i := 1) rfl
  have f1 := hPX.free 1
  refine Dr.plan_done (tl := [_]) rfl ?_
  go_wp2
  go_end0
  have hwi := Hwi.out
  exact OpR.good (hB3.setCell hPb2 _) (by rw [Hd3.out]; unfold Led.addW; rw [show l.windows.getD a.window.toNat 0 = x from hxw, show a.window.toNat = wi by omega]; rfl) hfin
end
end Go.Proofs.YtnjdlhhgnamigaaGreat

/- Walk: the words of a desk: window, amount, less, more, fresh, closed. -/
import Derived.Test.YtnjdlhhgnamigaaGreatLedE
namespace Go.Proofs.YtnjdlhhgnamigaaGreat
open Go.RowKit Go.Bs Go.Pu Go.Pl Go.Sort

/-- a desk's cells -/
def dkC (vw vb vd : Value) (l : Led) (a : Pu.Act) : List Value :=
  [vw, vb, .int .i64 l.office, .int .i64 l.bank, .int .i64 l.begun, .int .i64 l.inn, .int .i64 l.out, vd, .int .u8 a.kind, .int .i64 a.window, .int .i64 a.bag, .int .i64 a.sl, .int .i64 a.amount, .int .i64 a.written]
/-- returned, or refused with an error -/
def askE (b : Bool) (e : Int) : Ending := if b then .returned (.tuple #[]) else .panicked (refused e)
theorem ask_c (b : Bool) (e : Int) (w : World) : Calls Tryz.prog 101 #[.bool b, .int .i64 e] w fun r w' => r = askE b e ∧ w = w' := by
  cases b
  · exact ask_f e w
  · exact ask_t e w

theorem amount_c (P : Nat) (vw vb vd : Value) (l : Led) (a : Pu.Act) (w : World) (hP : Blk w P 117 (dkC vw vb vd l a)) :
    Calls Tryz.prog 98 #[.pointer (some ⟨P, 0, none⟩)] w fun r w' => Below w.heap.size w w' ∧ r = askE a.amB 2 := by
  have c0 : w.cell? ⟨P, 12, none⟩ = _ := hP.cell (i := 12) rfl
  have C1 := Lib.hid (fun W => within_any a.amount 1 1000000000000 W)
  have C2 := Lib.hid (fun b W => ask_c b 2 W)
  unfold Act.amB
  generalize decide (1 ≤ a.amount ∧ a.amount ≤ 1000000000000) = b at *
  generalize a.amount = x at *
  have hlt := hP.lt
  clear hP
  go_enter Tryz.func98, Tryz.ntmps98
  go_wp2_with fail
  refine (C1.out _).mono ?_; rintro r w1 ⟨rfl, rfl⟩
  go_wp2_with fail
  refine (C2.out b _).mono ?_; rintro r w1 ⟨rfl, rfl⟩
  cases b
  · exact ⟨rfl, Below.refl _ _, rfl⟩
  · simp only [askE, if_true]
    go_wp2
    go_end0
    exact ⟨Below.refl _ _, rfl⟩

set_option maxRecDepth 100000 in
theorem window_c (P : Nat) (A : Option Addr) (n c : Nat) (vb vd : Value) (l : Led) (a : Pu.Act) (w : World) (hn : l.windows.length = n) (h9 : n ≤ 1000) (hP : Blk w P 117 (dkC (.slice A n c) vb vd l a)) :
    Calls Tryz.prog 97 #[.pointer (some ⟨P, 0, none⟩)] w fun r w' => Below w.heap.size w w' ∧ r = askE (l.winB a.window) 2 := by
  have C1 := Lib.hid (fun W => within_any a.window 0 ((n : Int) - 1) W)
  have C2 := Lib.hid (fun b W => ask_c b 2 W)
  unfold Led.winB
  rw [hn]
  clear hn
  generalize decide (0 ≤ a.window ∧ a.window ≤ (n : Int) - 1) = b at *
  unfold dkC at hP
  generalize a.window = x at *
  go_enter Tryz.func97, Tryz.ntmps97
  refine Dr.wp_region_plan 13 [] (.q [0, 1, 2, 3, 4, 5, 6, 7, 8, 9, 10, 11] (.e1 12 .done)) (by kernel_rfl) (by kernel_rfl) ?_
  have hb := ext_drew w
  have hPd := hP.drew
  clear hP
  generalize w.drew = W at *
  have q0 := Dr.cell0 (hPd.cell (i := 0) rfl)
  have q9 := Dr.cell0 (hPd.cell (i := 9) rfl)
  have hlt := hPd.lt
  refine Dr.plan_q (l := [_, _, _, _, _, _, _, _, _, _, _, _]) rfl (fun K hK => ?_)
  iterate 12 (go_big_quiet_step (fail))
  refine wpQuiet_nil (hK _ ?_); clear hK K
  refine Dr.plan_e rfl (by rfl) (fun K hK => ?_)
  go_wp2_with fail
  refine (C1.out _).mono ?_; rintro r w1 ⟨rfl, rfl⟩
  refine hK _ _ (.refl _ _) ?_; clear hK K
  refine Dr.plan_done (tl := [_]) rfl ?_
  go_wp2_with fail
  refine (C2.out b _).mono ?_; rintro r w1 ⟨rfl, rfl⟩
  cases b
  · exact ⟨rfl, hb, rfl⟩
  · simp only [askE, if_true]
    go_wp2
    go_end0
    exact ⟨hb, rfl⟩


set_option maxRecDepth 100000 in
theorem less_t (P B off : Nat) (x y : Int) (cs : List Value) (T : Nat) (ps : List Value) (w : World) (hP : Blk w P 117 ps) (hy : ps[12]? = some (.int .i64 y)) (hB : Blk w B T cs) (hx : cs[off]? = some (.int .i64 x)) (h1 : 0 ≤ x ∧ x ≤ 2000000000000) (h2 : 0 ≤ y ∧ y ≤ 2000000000000) (hle : y ≤ x) :
    Calls Tryz.prog 99 #[.pointer (some ⟨P, 0, none⟩), .pointer (some ⟨B, off, none⟩)] w fun r w' => r = .returned (.tuple #[]) ∧ ∃ W, Below w.heap.size w W ∧ w' = W.setCell ⟨B, off, none⟩ (.int .i64 (x - y)) := by
  have CT := Lib.hid (fun W => ask_t 7 W)
  go_enter Tryz.func99, Tryz.ntmps99
  go_upto_region 0 with fail
  refine Dr.wp_region_plan 9 [] (.q [0, 1, 2, 3, 4, 5, 6, 7, 8] .done) (by kernel_rfl) (by kernel_rfl) ?_
  have hb := ext_drew w
  have hPd := hP.drew
  have hBd := hB.drew
  clear hP hB
  generalize w.drew = W at *
  have q0 := Dr.cell0 (hPd.cell hy)
  have q1 := Dr.cell0 (hBd.cell hx)
  have hlt := hPd.lt
  have hlt2 := hBd.lt
  refine Dr.plan_q (l := [_, _, _, _, _, _, _, _, _]) rfl (fun K hK => ?_)
  iterate 9 (go_big_quiet_step (fail))
  refine wpQuiet_nil (hK _ ?_); clear hK K
  clear q0 q1
  refine Dr.plan_done (tl := [_]) rfl ?_
  go_wp2_with fail
  refine (CT.out _).mono ?_; rintro r w1 ⟨rfl, rfl⟩
  go_upto_region 1 with fail
  refine Dr.wp_region_plan 10 [] (.q [0, 1, 2, 3, 4, 5, 6, 7, 8, 9] .done) (by kernel_rfl) (by kernel_rfl) ?_
  have hb2 := ext_trans hb (ext_drew W)
  have hPe := hPd.drew
  have hBe := hBd.drew
  clear hPd hBd hb
  generalize W.drew = W2 at *
  have q0 := Dr.cell0 (hPe.cell hy)
  have q1 := Dr.cell0 (hBe.cell hx)
  have hlt3 := hPe.lt
  have hlt4 := hBe.lt
  refine Dr.plan_q (l := [_, _, _, _, _, _, _, _, _, _]) rfl (fun K hK => ?_)
  iterate 10 (go_big_quiet_step (fail))
  refine wpQuiet_nil (hK _ ?_); clear hK K
  clear q0 q1
  have c0 : W2.cell? ⟨B, off, none⟩ = _ := hBe.cell hx
  have f0 := hBe.free off
  refine Dr.plan_done (tl := [_]) rfl ?_
  go_wp2
  go_end0
  exact ⟨rfl, W2, hb2, rfl⟩

set_option maxRecDepth 100000 in
theorem less_f (P B off : Nat) (x y : Int) (cs : List Value) (T : Nat) (ps : List Value) (w : World) (hP : Blk w P 117 ps) (hy : ps[12]? = some (.int .i64 y)) (hB : Blk w B T cs) (hx : cs[off]? = some (.int .i64 x)) (h1 : 0 ≤ x ∧ x ≤ 2000000000000) (h2 : 0 ≤ y ∧ y ≤ 2000000000000) (hle : ¬ y ≤ x) :
    Calls Tryz.prog 99 #[.pointer (some ⟨P, 0, none⟩), .pointer (some ⟨B, off, none⟩)] w fun r w' => r = .panicked (refused 7) ∧ Below w.heap.size w w' := by
  have CF := Lib.hid (fun W => ask_f 7 W)
  go_enter Tryz.func99, Tryz.ntmps99
  go_upto_region 0 with fail
  refine Dr.wp_region_plan 9 [] (.q [0, 1, 2, 3, 4, 5, 6, 7, 8] .done) (by kernel_rfl) (by kernel_rfl) ?_
  have hb := ext_drew w
  have hPd := hP.drew
  have hBd := hB.drew
  clear hP hB
  generalize w.drew = W at *
  have q0 := Dr.cell0 (hPd.cell hy)
  have q1 := Dr.cell0 (hBd.cell hx)
  have hlt := hPd.lt
  have hlt2 := hBd.lt
  refine Dr.plan_q (l := [_, _, _, _, _, _, _, _, _]) rfl (fun K hK => ?_)
  iterate 9 (go_big_quiet_step (fail))
  refine wpQuiet_nil (hK _ ?_); clear hK K
  clear q0 q1
  refine Dr.plan_done (tl := [_]) rfl ?_
  go_wp2_with fail
  refine (CF.out _).mono ?_; rintro r w1 ⟨rfl, rfl⟩
  exact ⟨rfl, rfl, hb⟩

set_option maxRecDepth 100000 in
theorem more_t (P B off : Nat) (x y : Int) (cs : List Value) (T : Nat) (ps : List Value) (w : World) (hP : Blk w P 117 ps) (hy : ps[12]? = some (.int .i64 y)) (hB : Blk w B T cs) (hx : cs[off]? = some (.int .i64 x)) (h1 : 0 ≤ x ∧ x ≤ 2000000000000) (h2 : 0 ≤ y ∧ y ≤ 2000000000000) (hle : x + y ≤ 1000000000000) :
    Calls Tryz.prog 100 #[.pointer (some ⟨P, 0, none⟩), .pointer (some ⟨B, off, none⟩)] w fun r w' => r = .returned (.tuple #[]) ∧ ∃ W, Below w.heap.size w W ∧ w' = W.setCell ⟨B, off, none⟩ (.int .i64 (x + y)) := by
  have CT := Lib.hid (fun W => ask_t 3 W)
  go_enter Tryz.func100, Tryz.ntmps100
  go_upto_region 0 with fail
  refine Dr.wp_region_plan 10 [] (.q [0, 1, 2, 3, 4, 5, 6, 7, 8, 9] .done) (by kernel_rfl) (by kernel_rfl) ?_
  have hb := ext_drew w
  have hPd := hP.drew
  have hBd := hB.drew
  clear hP hB
  generalize w.drew = W at *
  have q0 := Dr.cell0 (hPd.cell hy)
  have q1 := Dr.cell0 (hBd.cell hx)
  have hlt := hPd.lt
  have hlt2 := hBd.lt
  refine Dr.plan_q (l := [_, _, _, _, _, _, _, _, _, _]) rfl (fun K hK => ?_)
  iterate 10 (go_big_quiet_step (fail))
  refine wpQuiet_nil (hK _ ?_); clear hK K
  clear q0 q1
  refine Dr.plan_done (tl := [_]) rfl ?_
  go_wp2_with fail
  refine (CT.out _).mono ?_; rintro r w1 ⟨rfl, rfl⟩
  go_upto_region 1 with fail
  refine Dr.wp_region_plan 10 [] (.q [0, 1, 2, 3, 4, 5, 6, 7, 8, 9] .done) (by kernel_rfl) (by kernel_rfl) ?_
  have hb2 := ext_trans hb (ext_drew W)
  have hPe := hPd.drew
  have hBe := hBd.drew
  clear hPd hBd hb
  generalize W.drew = W2 at *
  have q0 := Dr.cell0 (hPe.cell hy)
  have q1 := Dr.cell0 (hBe.cell hx)
  have hlt3 := hPe.lt
  have hlt4 := hBe.lt
  refine Dr.plan_q (l := [_, _, _, _, _, _, _, _, _, _]) rfl (fun K hK => ?_)
  iterate 10 (go_big_quiet_step (fail))
  refine wpQuiet_nil (hK _ ?_); clear hK K
  clear q0 q1
  have c0 : W2.cell? ⟨B, off, none⟩ = _ := hBe.cell hx
  have f0 := hBe.free off
  refine Dr.plan_done (tl := [_]) rfl ?_
  go_wp2
  go_end0
  exact ⟨rfl, W2, hb2, rfl⟩

set_option maxRecDepth 100000 in
theorem more_f (P B off : Nat) (x y : Int) (cs : List Value) (T : Nat) (ps : List Value) (w : World) (hP : Blk w P 117 ps) (hy : ps[12]? = some (.int .i64 y)) (hB : Blk w B T cs) (hx : cs[off]? = some (.int .i64 x)) (h1 : 0 ≤ x ∧ x ≤ 2000000000000) (h2 : 0 ≤ y ∧ y ≤ 2000000000000) (hle : ¬ x + y ≤ 1000000000000) :
    Calls Tryz.prog 100 #[.pointer (some ⟨P, 0, none⟩), .pointer (some ⟨B, off, none⟩)] w fun r w' => r = .panicked (refused 3) ∧ Below w.heap.size w w' := by
  have CF := Lib.hid (fun W => ask_f 3 W)
  go_enter Tryz.func100, Tryz.ntmps100
  go_upto_region 0 with fail
  refine Dr.wp_region_plan 10 [] (.q [0, 1, 2, 3, 4, 5, 6, 7, 8, 9] .done) (by kernel_rfl) (by kernel_rfl) ?_
  have hb := ext_drew w
  have hPd := hP.drew
  have hBd := hB.drew
  clear hP hB
  generalize w.drew = W at *
  have q0 := Dr.cell0 (hPd.cell hy)
  have q1 := Dr.cell0 (hBd.cell hx)
  have hlt := hPd.lt
  have hlt2 := hBd.lt
  refine Dr.plan_q (l := [_, _, _, _, _, _, _, _, _, _]) rfl (fun K hK => ?_)
  iterate 10 (go_big_quiet_step (fail))
  refine wpQuiet_nil (hK _ ?_); clear hK K
  clear q0 q1
  refine Dr.plan_done (tl := [_]) rfl ?_
  go_wp2_with fail
  refine (CF.out _).mono ?_; rintro r w1 ⟨rfl, rfl⟩
  exact ⟨rfl, rfl, hb⟩


set_option maxRecDepth 100000 in
theorem fresh_c (P : Nat) (A : Option Addr) (n c : Nat) (B : Option Addr) (m d : Nat) (D : Option Addr) (q e : Nat) (l : Led) (a : Pu.Act) (w : World) (hm : l.bags.length = m) (m9 : m ≤ 1000) (hB : Cells w B 6 Bag.enc l.bags) (hP : Blk w P 117 (dkC (.slice A n c) (.slice B m d) (.slice D q e) l a)) :
    Calls Tryz.prog 102 #[.pointer (some ⟨P, 0, none⟩)] w fun r w' => Below w.heap.size w w' ∧ r = askE (!l.sealed a.sl (-1)) 6 := by
  have C1 := Lib.hid (fun W hW => sealed_any l.bags A n c B m d l.office l.bank l.begun l.inn l.out D q e a.sl (-1) W hm (by omega) (hB.ext hW))
  have C2 := Lib.hid (fun b W => ask_c b 6 W)
  rw [sealed_oth, hm]
  unfold ledV at C1
  unfold dkC at hP
  generalize (othL l.bags (-1) m).any (fun b => b.has a.sl) = b at *
  generalize a.sl = x at *
  generalize l.office = lo at *
  generalize l.bank = lk at *
  generalize l.begun = lg at *
  generalize l.inn = li at *
  generalize l.out = lt at *
  go_enter Tryz.func102, Tryz.ntmps102
  refine Dr.wp_region_plan 11 [] (.q [0, 1, 2, 3, 4, 5, 6, 7, 8] (.e1 9 (.q [10] .done))) (by kernel_rfl) (by kernel_rfl) ?_
  have hb := ext_drew w
  have hPd := hP.drew
  clear hP hm hB
  generalize w.drew = W at *
  have q0 := Dr.cell0 (hPd.cell (i := 0) rfl)
  have q1 := Dr.cell0 (hPd.cell (i := 1) rfl)
  have q2 := Dr.cell0 (hPd.cell (i := 2) rfl)
  have q3 := Dr.cell0 (hPd.cell (i := 3) rfl)
  have q4 := Dr.cell0 (hPd.cell (i := 4) rfl)
  have q5 := Dr.cell0 (hPd.cell (i := 5) rfl)
  have q6 := Dr.cell0 (hPd.cell (i := 6) rfl)
  have q7 := Dr.cell0 (hPd.cell (i := 7) rfl)
  have q11 := Dr.cell0 (hPd.cell (i := 11) rfl)
  have hlt := hPd.lt
  refine Dr.plan_q (l := [_, _, _, _, _, _, _, _, _]) rfl (fun K hK => ?_)
  iterate 9 (go_big_quiet_step (fail))
  refine wpQuiet_nil (hK _ ?_); clear hK K
  refine Dr.plan_e rfl (by rfl) (fun K hK => ?_)
  go_wp2_with fail
  refine (C1.out _ hb).mono ?_; rintro r w1 ⟨rfl, hb1⟩
  refine hK _ _ (.of hb1) ?_; clear hK K
  have hb2 := ext_trans hb hb1
  clear q0 q1 q2 q3 q4 q5 q6 q7 q11
  refine Dr.plan_q (l := [_]) rfl (fun K hK => ?_)
  iterate 1 (go_big_quiet_step (fail))
  refine wpQuiet_nil (hK _ ?_); clear hK K
  refine Dr.plan_done (tl := [_]) rfl ?_
  go_wp2_with fail
  refine (C2.out (!b) _).mono ?_; rintro r w9 ⟨rfl, rfl⟩
  cases b
  · simp only [askE, Bool.not_false, if_true]
    go_wp2
    go_end0
    exact ⟨hb2, rfl⟩
  · exact ⟨rfl, hb2, rfl⟩

set_option maxRecDepth 100000 in
theorem closed_c (P : Nat) (A : Option Addr) (n c : Nat) (b off : Nat) (m d : Nat) (vd : Value) (l : Led) (a : Pu.Act) (w : World) (hm : l.bags.length = m) (m9 : m ≤ 1000) (hB : Cells w (some ⟨b, off, none⟩) 6 Bag.enc l.bags) (hP : Blk w P 117 (dkC (.slice A n c) (.slice (some ⟨b, off, none⟩) m d) vd l a)) (hb : 0 ≤ a.bag ∧ a.bag < m) :
    Calls Tryz.prog 103 #[.pointer (some ⟨P, 0, none⟩)] w fun r w' => Below w.heap.size w w' ∧ r = (if (l.bg a.bag).opened then .panicked (refused 8) else .returned (.pointer (some ⟨b, off + a.bag.toNat * 6, none⟩))) := by
  obtain ⟨bi, hbi⟩ : ∃ bi : Nat, a.bag = bi := ⟨a.bag.toNat, by omega⟩
  have hbl : bi < l.bags.length := by omega
  have hbg : l.bg a.bag = l.bags[bi] := by unfold Led.bg; simp [hbi, hbl]
  rw [hbg, hbi, Int.toNat_natCast]
  obtain ⟨b', off', e, -, c0, c1, c2, c3, c4, c5⟩ := hB.at6 hbl rfl
  cases e
  unfold dkC at hP
  rw [hbi] at hP hb
  have hb' : (bi : Int) < (m : Int) := hb.2
  clear hm hB hbg hb hbi
  generalize l.bags[bi].opened = op at *
  have CT := Lib.hid (fun W => ask_t 8 W)
  have CF := Lib.hid (fun W => ask_f 8 W)
  clear c0 c1 c2 c3 c4
  cases op
  · simp only [Bool.false_eq_true, if_false]
    go_enter Tryz.func103, Tryz.ntmps103
    go_upto_region 1 with fail
    refine Dr.wp_region_plan 12 [] (.q [0, 1, 2, 3, 4, 5, 6, 7, 8, 9, 10, 11] .done) (by kernel_rfl) (by kernel_rfl) ?_
    have hbw := ext_drew w
    have hPd := hP.drew
    have c5d := cell_ext c5 hbw
    clear hP c5
    generalize w.drew = W at *
    have q0 := Dr.cell0 (hPd.cell (i := 1) rfl)
    have q1 := Dr.cell0 (hPd.cell (i := 10) rfl)
    have hlt := hPd.lt
    refine Dr.plan_q (l := [_, _, _, _, _, _, _, _, _, _, _, _]) rfl (fun K hK => ?_)
    iterate 12 (go_big_quiet_step (fail))
    refine wpQuiet_nil (hK _ ?_); clear hK K
    clear q0 q1
    refine Dr.plan_end rfl ?_
    go_wp2_with fail
    refine (CT.out _).mono ?_; rintro r w1 ⟨rfl, rfl⟩
    go_wp2
    go_ret
    exact ⟨hbw, rfl⟩
  · simp only [if_true]
    go_enter Tryz.func103, Tryz.ntmps103
    go_upto_region 1 with fail
    refine Dr.wp_region_plan 12 [] (.q [0, 1, 2, 3, 4, 5, 6, 7, 8, 9, 10, 11] .done) (by kernel_rfl) (by kernel_rfl) ?_
    have hbw := ext_drew w
    have hPd := hP.drew
    have c5d := cell_ext c5 hbw
    clear hP c5
    generalize w.drew = W at *
    have q0 := Dr.cell0 (hPd.cell (i := 1) rfl)
    have q1 := Dr.cell0 (hPd.cell (i := 10) rfl)
    have hlt := hPd.lt
    refine Dr.plan_q (l := [_, _, _, _, _, _, _, _, _, _, _, _]) rfl (fun K hK => ?_)
    iterate 12 (go_big_quiet_step (fail))
    refine wpQuiet_nil (hK _ ?_); clear hK K
    clear q0 q1
    refine Dr.plan_end rfl ?_
    go_wp2_with fail
    refine (CF.out _).mono ?_; rintro r w1 ⟨rfl, rfl⟩
    exact ⟨rfl, hbw, rfl⟩
end Go.Proofs.YtnjdlhhgnamigaaGreat

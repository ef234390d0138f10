/- Walk: a ledger behind acts. -/
import Derived.Test.YtnjdlhhgnamigaaGreatLedQ
namespace Go.Pu
def runR (l : Led) (acts : List Act) : Led × List Int × Int := if !l.okB then (Led.zero, [], 1) else if 200 < acts.length then (Led.zero, [], 3) else ((runL l acts).1, (runL l acts).2, 0)
end Go.Pu
namespace Go.Proofs.YtnjdlhhgnamigaaGreat
open Go.RowKit Go.Bs Go.Pu Go.Pl Go.Sort
theorem LedF.bel {a b c : World} {l : Led} {A : Option Addr} {n : Nat} {B : Option Addr} {m : Nat} {D : Option Addr} {q : Nat} {M : List Nat} (h : LedF a b l A n B m D q) (hb : Dr.Bel M b c) (hM : ∀ k ∈ M, k < a.heap.size) : LedF a c l A n B m D q := by
  have hs := hb.size
  refine ⟨⟨h.m.hn, h.m.hm, h.m.hq, h.m.n9, h.m.m9, h.m.q9, cells_bel h.m.a hb (fun k hk hm => ?_), cells_bel h.m.b hb (fun k hk hm => ?_), cells_bel h.m.d hb (fun k hk hm => ?_)⟩, fun k hk => ?_, fun k hk => ?_, fun k hk => ?_⟩
  · have := hM k hm; have := (h.fa k hk).1; omega
  · have := hM k hm; have := (h.fb k hk).1; omega
  · have := hM k hm; have := (h.fd k hk).1; omega
  · have := h.fa k hk; omega
  · have := h.fb k hk; omega
  · have := h.fd k hk; omega
theorem LedF.ext {a b c : World} {l : Led} {A : Option Addr} {n : Nat} {B : Option Addr} {m : Nat} {D : Option Addr} {q : Nat} (h : LedF a b l A n B m D q) (hb : Below b.heap.size b c) : LedF a c l A n B m D q := h.bel (M := []) (.of hb) (by simp)
theorem LedF.older {a b c : World} {l : Led} {A : Option Addr} {n : Nat} {B : Option Addr} {m : Nat} {D : Option Addr} {q : Nat} (h : LedF b c l A n B m D q) (hb : a.heap.size ≤ b.heap.size) : LedF a c l A n B m D q :=
  ⟨h.m, fun k hk => by have := h.fa k hk; omega, fun k hk => by have := h.fb k hk; omega, fun k hk => by have := h.fd k hk; omega⟩
structure RunI (W3 W7 : World) (bx : Nat) (l : Led) (acts : List Pu.Act) (k : Nat) (v : Value) (A : Option Addr) (n c : Nat) (B : Option Addr) (m d : Nat) (D : Option Addr) (q e : Nat) (wr : World) : Prop where
  own : OwnL wr W7.heap.size 36 1 encI v (runL l (acts.take k)).2
  blk : Blk wr bx 34 (ledC A n c B m d (runL l (acts.take k)).1.office (runL l (acts.take k)).1.bank (runL l (acts.take k)).1.begun (runL l (acts.take k)).1.inn (runL l (acts.take k)).1.out D q e)
  led : LedF W3 wr (runL l (acts.take k)).1 A n B m D q
  bel : Dr.Bel [bx] W7 wr
  dis : ∀ g, v.ownBlock = some g → A.map (·.block) ≠ some g ∧ B.map (·.block) ≠ some g ∧ D.map (·.block) ≠ some g
theorem LedF.kept {a b c : World} {l : Led} {A : Option Addr} {n : Nat} {B : Option Addr} {m : Nat} {D : Option Addr} {q : Nat} {row : Option Nat} (h : LedF a b l A n B m D q) (hg : b.grownBy c row) (hd : ∀ g, row = some g → A.map (·.block) ≠ some g ∧ B.map (·.block) ≠ some g ∧ D.map (·.block) ≠ some g) : LedF a c l A n B m D q := by
  have hs := hg.size
  refine ⟨⟨h.m.hn, h.m.hm, h.m.hq, h.m.n9, h.m.m9, h.m.q9, h.m.a.keep (fun p hp hq => ?_), h.m.b.keep (fun p hp hq => ?_), h.m.d.keep (fun p hp hq => ?_)⟩, fun k hk => ?_, fun k hk => ?_, fun k hk => ?_⟩
  · rw [World.cell?_of_block (hg.block p.block hp (fun e => (hd _ e.symm).1 hq))]
  · rw [World.cell?_of_block (hg.block p.block hp (fun e => (hd _ e.symm).2.1 hq))]
  · rw [World.cell?_of_block (hg.block p.block hp (fun e => (hd _ e.symm).2.2 hq))]
  · have := h.fa k hk; omega
  · have := h.fb k hk; omega
  · have := h.fd k hk; omega
theorem et94 : ElemT Tryz.prog 35 36 1 8 := ElemT.mk (z := .int .i64 0) Tryz.underlying35 (by kernel_rfl) rfl

set_option maxRecDepth 100000 in
set_option maxHeartbeats 4000000 in
theorem Run_any (l : Led) (A : Option Addr) (n c : Nat) (B : Option Addr) (m d : Nat) (D : Option Addr) (q e : Nat) (w : World) (hL : LedM w l A n B m D q) (acts : List Pu.Act) (Z : Option Addr) (k0 kc : Nat) (hk0 : acts.length = k0) (h9 : k0 ≤ 100000) (hZ : Cells w Z 6 Act.enc acts) :
    Calls Tryz.prog 8 #[ledV A n c B m d l.office l.bank l.begun l.inn l.out D q e, .slice Z k0 kc] w fun r w' => ∃ v u, r = .returned (.tuple #[v, u, .int .i64 (runR l acts).2.2]) ∧ LedFr w w' v (runR l acts).1 ∧ FreshL w w' 1 encI u (runR l acts).2.1 ∧ Below w.heap.size w w' := by
  have hb0 : Below w.heap.size w ((w.alloc (.cells #[.slice A n c, .slice B m d, .int .i64 l.office, .int .i64 l.bank, .int .i64 l.begun, .int .i64 l.inn, .int .i64 l.out, .slice D q e] 34)).alloc (.cells #[.slice none 0 0, .slice none 0 0, .int .i64 0, .int .i64 0, .int .i64 0, .int .i64 0, .int .i64 0, .slice none 0 0] 34)) := ((Below.refl _ _).alloc (Nat.le_refl _) _).alloc (by simp) _
  have hX := (Blk.new w 34 [.slice A n c, .slice B m d, .int .i64 l.office, .int .i64 l.bank, .int .i64 l.begun, .int .i64 l.inn, .int .i64 l.out, .slice D q e]).alloc (.cells #[.slice none 0 0, .slice none 0 0, .int .i64 0, .int .i64 0, .int .i64 0, .int .i64 0, .int .i64 0, .slice none 0 0] 34)
  have hR := Blk.new (w.alloc (.cells #[.slice A n c, .slice B m d, .int .i64 l.office, .int .i64 l.bank, .int .i64 l.begun, .int .i64 l.inn, .int .i64 l.out, .slice D q e] 34)) 34 [.slice none 0 0, .slice none 0 0, .int .i64 0, .int .i64 0, .int .i64 0, .int .i64 0, .int .i64 0, .slice none 0 0]
  have hsz : ((w.alloc (.cells #[.slice A n c, .slice B m d, .int .i64 l.office, .int .i64 l.bank, .int .i64 l.begun, .int .i64 l.inn, .int .i64 l.out, .slice D q e] 34)).alloc (.cells #[.slice none 0 0, .slice none 0 0, .int .i64 0, .int .i64 0, .int .i64 0, .int .i64 0, .int .i64 0, .slice none 0 0] 34)).heap.size = w.heap.size + 2 := by simp
  simp only [World.size_alloc] at hR
  have hL0 := hL.ext hb0
  have hZ0 := hZ.ext hb0
  have CV := Lib.hid (lvalid_any l A n c B m d D q e _ hL0)
  unfold ledV at *
  have Hk := Lib.hid hk0
  have Hok := Lib.hid (show l.okB = true → _ from fun h => ok_mon h)
  clear hL
  generalize hres : runR l acts = res
  have Hres := Lib.hid hres
  clear hres hk0
  go_enter Tryz.func8, Tryz.ntmps8
  go_upto_region 1 with fail
  change Blk ((w.alloc (.cells #[.slice A n c, .slice B m d, .int .i64 l.office, .int .i64 l.bank, .int .i64 l.begun, .int .i64 l.inn, .int .i64 l.out, .slice D q e] 34)).alloc (.cells #[.slice none 0 0, .slice none 0 0, .int .i64 0, .int .i64 0, .int .i64 0, .int .i64 0, .int .i64 0, .slice none 0 0] 34)) _ _ _ at hX
  change Blk ((w.alloc (.cells #[.slice A n c, .slice B m d, .int .i64 l.office, .int .i64 l.bank, .int .i64 l.begun, .int .i64 l.inn, .int .i64 l.out, .slice D q e] 34)).alloc (.cells #[.slice none 0 0, .slice none 0 0, .int .i64 0, .int .i64 0, .int .i64 0, .int .i64 0, .int .i64 0, .slice none 0 0] 34)) _ _ _ at hR
  generalize (w.alloc (.cells #[.slice A n c, .slice B m d, .int .i64 l.office, .int .i64 l.bank, .int .i64 l.begun, .int .i64 l.inn, .int .i64 l.out, .slice D q e] 34)).alloc (.cells #[.slice none 0 0, .slice none 0 0, .int .i64 0, .int .i64 0, .int .i64 0, .int .i64 0, .int .i64 0, .slice none 0 0] 34) = W0 at *
  have x0 : W0.cell? ⟨w.heap.size, 0, none⟩ = _ := hX.cell (i := 0) rfl
  have x1 : W0.cell? ⟨w.heap.size, 1, none⟩ = _ := hX.cell (i := 1) rfl
  have x2 : W0.cell? ⟨w.heap.size, 2, none⟩ = _ := hX.cell (i := 2) rfl
  have x3 : W0.cell? ⟨w.heap.size, 3, none⟩ = _ := hX.cell (i := 3) rfl
  have x4 : W0.cell? ⟨w.heap.size, 4, none⟩ = _ := hX.cell (i := 4) rfl
  have x5 : W0.cell? ⟨w.heap.size, 5, none⟩ = _ := hX.cell (i := 5) rfl
  have x6 : W0.cell? ⟨w.heap.size, 6, none⟩ = _ := hX.cell (i := 6) rfl
  have x7 : W0.cell? ⟨w.heap.size, 7, none⟩ = _ := hX.cell (i := 7) rfl
  go_wp2_with fail
  refine CV.out.mono ?_; rintro r W1 ⟨rfl, hb1⟩
  have hbw1 := ext_trans hb0 hb1
  have hX1 := hX.ext hb1
  have hR1 := hR.ext hb1
  have hL1 := hL0.ext hb1
  have hZ1 := hZ0.ext hb1
  have hs1 := hb1.size
  clear hX hR hL0 hZ0 hb0 hb1 CV x0 x1 x2 x3 x4 x5 x6 x7
  cases hok : l.okB
  · have hr : res = (Led.zero, [], 1) := by rw [← Hres.out]; simp [runR, hok]
    subst hr
    have y0 : W1.cell? ⟨w.heap.size + 1, 0, none⟩ = _ := hR1.cell (i := 0) rfl
    have y1 : W1.cell? ⟨w.heap.size + 1, 1, none⟩ = _ := hR1.cell (i := 1) rfl
    have y2 : W1.cell? ⟨w.heap.size + 1, 2, none⟩ = _ := hR1.cell (i := 2) rfl
    have y3 : W1.cell? ⟨w.heap.size + 1, 3, none⟩ = _ := hR1.cell (i := 3) rfl
    have y4 : W1.cell? ⟨w.heap.size + 1, 4, none⟩ = _ := hR1.cell (i := 4) rfl
    have y5 : W1.cell? ⟨w.heap.size + 1, 5, none⟩ = _ := hR1.cell (i := 5) rfl
    have y6 : W1.cell? ⟨w.heap.size + 1, 6, none⟩ = _ := hR1.cell (i := 6) rfl
    have y7 : W1.cell? ⟨w.heap.size + 1, 7, none⟩ = _ := hR1.cell (i := 7) rfl
    have f0 := hR1.free 0
    have f1 := hR1.free 1
    have f2 := hR1.free 2
    have f3 := hR1.free 3
    have f4 := hR1.free 4
    have f5 := hR1.free 5
    have f6 := hR1.free 6
    have f7 := hR1.free 7
    go_wp2
    generalize hWf : World.setCell _ _ _ = Wf
    have hYf := hR1.put_eq [.slice none 0 0, .slice none 0 0, .int .i64 0, .int .i64 0, .int .i64 0, .int .i64 0, .int .i64 0, .slice none 0 0] hWf rfl
    have hbf : Dr.Bel [w.heap.size + 1] W1 Wf := bel_put_eq [.slice none 0 0, .slice none 0 0, .int .i64 0, .int .i64 0, .int .i64 0, .int .i64 0, .int .i64 0, .slice none 0 0] hWf
    clear hWf y0 y1 y2 y3 y4 y5 y6 y7 f0 f1 f2 f3 f4 f5 f6 f7
    have o0 : Wf.cell? ⟨w.heap.size + 1, 0, none⟩ = _ := hYf.cell (i := 0) rfl
    have o1 : Wf.cell? ⟨w.heap.size + 1, 1, none⟩ = _ := hYf.cell (i := 1) rfl
    have o2 : Wf.cell? ⟨w.heap.size + 1, 2, none⟩ = _ := hYf.cell (i := 2) rfl
    have o3 : Wf.cell? ⟨w.heap.size + 1, 3, none⟩ = _ := hYf.cell (i := 3) rfl
    have o4 : Wf.cell? ⟨w.heap.size + 1, 4, none⟩ = _ := hYf.cell (i := 4) rfl
    have o5 : Wf.cell? ⟨w.heap.size + 1, 5, none⟩ = _ := hYf.cell (i := 5) rfl
    have o6 : Wf.cell? ⟨w.heap.size + 1, 6, none⟩ = _ := hYf.cell (i := 6) rfl
    have o7 : Wf.cell? ⟨w.heap.size + 1, 7, none⟩ = _ := hYf.cell (i := 7) rfl
    refine bodyPost_ret (v := .tuple #[.agg #[.slice none 0 0, .slice none 0 0, .int .i64 0, .int .i64 0, .int .i64 0, .int .i64 0, .int .i64 0, .slice none 0 0], .slice none 0 0, .int .i64 1]) (by simp [results, Tryz.results8, go_sem, o0, o1, o2, o3, o4, o5, o6, o7]) rfl ?_
    have hsf := hbf.size
    exact ⟨_, _, rfl, lz_fr _ _, FreshL.nil _ _ _ _, hbw1.trans (hbf.old (by omega) (by simp))⟩
  obtain ⟨hmon, hq1, -, -⟩ := Hok.out hok
  clear Hok
  by_cases h200 : 200 < k0
  · have h200' : (200 : Int) < k0 := by omega
    have hr : res = (Led.zero, [], 3) := by rw [← Hres.out]; simp [runR, hok, Hk.out, h200]
    subst hr
    have y0 : W1.cell? ⟨w.heap.size + 1, 0, none⟩ = _ := hR1.cell (i := 0) rfl
    have y1 : W1.cell? ⟨w.heap.size + 1, 1, none⟩ = _ := hR1.cell (i := 1) rfl
    have y2 : W1.cell? ⟨w.heap.size + 1, 2, none⟩ = _ := hR1.cell (i := 2) rfl
    have y3 : W1.cell? ⟨w.heap.size + 1, 3, none⟩ = _ := hR1.cell (i := 3) rfl
    have y4 : W1.cell? ⟨w.heap.size + 1, 4, none⟩ = _ := hR1.cell (i := 4) rfl
    have y5 : W1.cell? ⟨w.heap.size + 1, 5, none⟩ = _ := hR1.cell (i := 5) rfl
    have y6 : W1.cell? ⟨w.heap.size + 1, 6, none⟩ = _ := hR1.cell (i := 6) rfl
    have y7 : W1.cell? ⟨w.heap.size + 1, 7, none⟩ = _ := hR1.cell (i := 7) rfl
    have f0 := hR1.free 0
    have f1 := hR1.free 1
    have f2 := hR1.free 2
    have f3 := hR1.free 3
    have f4 := hR1.free 4
    have f5 := hR1.free 5
    have f6 := hR1.free 6
    have f7 := hR1.free 7
    go_wp2
    generalize hWf : World.setCell _ _ _ = Wf
    have hYf := hR1.put_eq [.slice none 0 0, .slice none 0 0, .int .i64 0, .int .i64 0, .int .i64 0, .int .i64 0, .int .i64 0, .slice none 0 0] hWf rfl
    have hbf : Dr.Bel [w.heap.size + 1] W1 Wf := bel_put_eq [.slice none 0 0, .slice none 0 0, .int .i64 0, .int .i64 0, .int .i64 0, .int .i64 0, .int .i64 0, .slice none 0 0] hWf
    clear hWf y0 y1 y2 y3 y4 y5 y6 y7 f0 f1 f2 f3 f4 f5 f6 f7
    have o0 : Wf.cell? ⟨w.heap.size + 1, 0, none⟩ = _ := hYf.cell (i := 0) rfl
    have o1 : Wf.cell? ⟨w.heap.size + 1, 1, none⟩ = _ := hYf.cell (i := 1) rfl
    have o2 : Wf.cell? ⟨w.heap.size + 1, 2, none⟩ = _ := hYf.cell (i := 2) rfl
    have o3 : Wf.cell? ⟨w.heap.size + 1, 3, none⟩ = _ := hYf.cell (i := 3) rfl
    have o4 : Wf.cell? ⟨w.heap.size + 1, 4, none⟩ = _ := hYf.cell (i := 4) rfl
    have o5 : Wf.cell? ⟨w.heap.size + 1, 5, none⟩ = _ := hYf.cell (i := 5) rfl
    have o6 : Wf.cell? ⟨w.heap.size + 1, 6, none⟩ = _ := hYf.cell (i := 6) rfl
    have o7 : Wf.cell? ⟨w.heap.size + 1, 7, none⟩ = _ := hYf.cell (i := 7) rfl
    refine bodyPost_ret (v := .tuple #[.agg #[.slice none 0 0, .slice none 0 0, .int .i64 0, .int .i64 0, .int .i64 0, .int .i64 0, .int .i64 0, .slice none 0 0], .slice none 0 0, .int .i64 3]) (by simp [results, Tryz.results8, go_sem, o0, o1, o2, o3, o4, o5, o6, o7]) rfl ?_
    have hsf := hbf.size
    exact ⟨_, _, rfl, lz_fr _ _, FreshL.nil _ _ _ _, hbw1.trans (hbf.old (by omega) (by simp))⟩
  have h200' : ¬ (200 : Int) < k0 := by omega
  have hr := Lib.hid (show res = ((runL l acts).1, (runL l acts).2, 0) by rw [← Hres.out]; simp [runR, hok, Hk.out, h200])
  clear Hres
  go_upto_region 5 with fail
  have Hmon := Lib.hid hmon
  clear hmon
  refine Dr.wp_region_plan 10 [] (.q [0, 1, 3, 4, 6, 7] (.e1 2 (.q [9] (.e1 5 (.e1 8 .done))))) (by kernel_rfl) (by kernel_rfl) ?_
  have hX3 := hX1.drew
  have hR3 := hR1.drew
  have hL3 := hL1.ext (ext_drew W1)
  have hZ3 := hZ1.ext (ext_drew W1)
  have hbw3 := hbw1.drew
  have hs3 : W1.drew.heap.size = W1.heap.size := rfl
  clear hX1 hR1 hL1 hZ1 hbw1
  generalize W1.drew = W3 at *
  have q0 := Dr.cell0 (hX3.cell (i := 0) rfl)
  have q1 := Dr.cell0 (hX3.cell (i := 1) rfl)
  have q7 := Dr.cell0 (hX3.cell (i := 7) rfl)
  refine Dr.plan_q (l := [_, _, _, _, _, _]) rfl (fun K hK => ?_)
  iterate 6 (go_big_quiet_step (fail))
  refine wpQuiet_nil (hK _ ?_); clear hK K
  clear q0 q1 q7
  refine Dr.plan_e rfl (by rfl) (fun K hK => ?_)
  go_wp2_with fail
  refine (clone_int A n c l.windows W3 hL3.hn (by have := hL3.n9; omega) hL3.a).mono ?_; rintro r W4 ⟨v0, rfl, ow, hb4⟩
  refine hK _ _ (.of hb4) ?_; clear hK K
  have hL4 := hL3.ext hb4
  refine Dr.plan_q (l := [_]) rfl (fun K hK => ?_)
  iterate 1 (go_big_quiet_step (fail))
  refine wpQuiet_nil (hK _ ?_); clear hK K
  refine Dr.plan_e rfl (by rfl) (fun K hK => ?_)
  go_wp2_with fail
  refine (clone_bag B m d l.bags W4 hL4.hm (by have := hL4.m9; omega) hL4.b).mono ?_; rintro r W5 ⟨v1, rfl, ob, hb5⟩
  refine hK _ _ (.of hb5) ?_; clear hK K
  have hL5 := hL4.ext hb5
  refine Dr.plan_e rfl (by rfl) (fun K hK => ?_)
  go_wp2_with fail
  refine (clone_dif D q e l.diffs W5 hL5.hq (by have := hL5.q9; omega) hL5.d).mono ?_; rintro r W6 ⟨v2, rfl, od, hb6⟩
  refine hK _ _ (.of hb6) ?_; clear hK K
  obtain ⟨A', c', hv0, -, -, ca⟩ := ow.cells encI_len
  obtain ⟨B', d', hv1, -, -, cb⟩ := ob.cells bag_len
  obtain ⟨D', e', hv2, -, -, cd⟩ := od.cells dif_len
  rw [hL3.hn] at hv0
  rw [hL3.hm] at hv1
  rw [hL3.hq] at hv2
  subst hv0 hv1 hv2
  have hbl := (ext_trans (ext_trans hb4 hb5) hb6)
  have hbw6 := ext_trans hbw3 hbl
  have hX6 := hX3.ext hbl
  have hR6 := hR3.ext hbl
  have hZ6 := hZ3.ext hbl
  have hs6 := hbl.size
  obtain ⟨_, _, hw0, -, -, k0', r0⟩ := FreshL.of_own (w := W3) (ow.ext (ext_trans hb5 hb6)) encI_len (Nat.le_refl _)
  obtain ⟨_, _, hw1, -, -, k1', r1⟩ := FreshL.of_own (w := W3) (ob.ext hb6) bag_len hb4.size
  obtain ⟨_, _, hw2, -, -, k2', r2⟩ := FreshL.of_own (w := W3) od dif_len (Nat.le_trans hb4.size hb5.size)
  rw [hL3.hn] at hw0
  rw [hL3.hm] at hw1
  rw [hL3.hq] at hw2
  cases hw0; cases hw1; cases hw2
  have hF6 : LedF W3 W6 l A' n B' m D' q := ⟨⟨hL3.hn, hL3.hm, hL3.hq, hL3.n9, hL3.m9, hL3.q9, k0', k1', k2'⟩, r0, r1, r2⟩
  clear k0' k1' k2' r0 r1 r2
  clear ow ob od ca cb cd hL3 hL4 hL5 hX3 hR3 hZ3 hbw3 hb4 hb5 hb6 hbl
  have x0 : W6.cell? ⟨w.heap.size, 0, none⟩ = _ := hX6.cell (i := 0) rfl
  have x1 : W6.cell? ⟨w.heap.size, 1, none⟩ = _ := hX6.cell (i := 1) rfl
  have x7 : W6.cell? ⟨w.heap.size, 7, none⟩ = _ := hX6.cell (i := 7) rfl
  have f0 := hX6.free 0
  have f1 := hX6.free 1
  have f7 := hX6.free 7
  refine Dr.plan_done (tl := [_, _, _, _, _]) rfl ?_
  go_upto_region 6 with fail
  have hX7 := ((hX6.set 0 (.slice A' n c')).set 1 (.slice B' m d')).set 7 (.slice D' q e')
  simp only [List.set] at hX7
  have hbl7 : Dr.Bel [w.heap.size] W6 (((W6.setCell ⟨w.heap.size, 0, none⟩ (.slice A' n c')).setCell ⟨w.heap.size, 1, none⟩ (.slice B' m d')).setCell ⟨w.heap.size, 7, none⟩ (.slice D' q e')) := (((Dr.Bel.refl _ W6).put (by simp) _).put (by simp) _).put (by simp) _
  clear x0 x1 x7 f0 f1 f7 hX6
  generalize ((W6.setCell ⟨w.heap.size, 0, none⟩ (.slice A' n c')).setCell ⟨w.heap.size, 1, none⟩ (.slice B' m d')).setCell ⟨w.heap.size, 7, none⟩ (.slice D' q e') = W7 at *
  have hR7 := hbl7.blk hR6 (by simp)
  have hF7 := hF6.bel hbl7 (by simp; omega)
  have hs7 := hbl7.size
  have hbw7 : Below w.heap.size w W7 := hbw6.trans (hbl7.old (by omega) (by simp))
  have hZ7 : Cells W7 Z 6 Act.enc acts := hZ.ext hbw7
  clear hR6 hF6 hbl7 hbw6 hZ6
  have hi0 : RunI W3 W7 w.heap.size l acts 0 (.slice none 0 0) A' n c' B' m d' D' q e' W7 := ⟨OwnL.nil, hX7, hF7, Dr.Bel.refl _ _, fun g hg => by cases hg⟩
  clear hX7 hF7
  go_upto_region 8 with fail
  go_loopw [7, 36] (fun v x wr => ∃ (k : Nat) (A : Option Addr) (n c : Nat) (B : Option Addr) (m d : Nat) (D : Option Addr) (q e : Nat), x = .int .i64 k ∧ k ≤ k0 ∧ RunI W3 W7 w.heap.size l acts k v A n c B m d D q e wr) (fun _ x _ => k0 - (intOf x).toNat)
  case atStart => exact ⟨0, _, _, _, _, _, _, _, _, _, rfl, by omega, hi0⟩
  case round =>
    obtain ⟨k, A1, n1, c1, B1, m1, d1, D1, q1, e1, rfl, hk, Iown, Iblk, Iled, Ibel, Idis⟩ := hrel
    unfold ledC at Iblk
    have hsw := Ibel.size
    by_cases hlt : k < k0
    · have hlt' : (k : Int) < (k0 : Int) := by omega
      have hkl : k < acts.length := by rw [Hk.out]; exact hlt
      have hZr : Cells wr Z 6 Act.enc acts := hZ.ext (hbw7.trans (Ibel.old (by omega) (by simp)))
      obtain ⟨b, off, rfl, -, z0, z1, z2, z3, z4, z5⟩ := hZr.at6 hkl rfl
      have hs := runL_snoc acts[k] (acts.take k) l
      rw [← List.take_succ_eq_append_getElem hkl] at hs
      have hcm := runL_mon (acts.take k) Hmon.out
      have hcd := runL_difs (acts.take k) l
      have hcl := runL_len (acts.take k) l
      rw [List.length_take] at hcd hcl
      rw [Iled.m.hq] at hcd
      have hq1' : q1 ≤ 900 := by omega
      have hes : (runL l (acts.take k)).2.length ≤ 200 := by omega
      have Hs := Lib.hid hs
      have Hcm := Lib.hid hcm
      have Hes := Lib.hid hes
      clear hs hcm hes hcd hcl hZr
      generalize acts[k] = a at *
      generalize (runL l (acts.take k)).1 = cur at *
      generalize (runL l (acts.take k)).2 = es at *
      go_upto_region 10 with fail
      have hY := Blk.new wr 51 [.int .u8 a.kind, .int .i64 a.window, .int .i64 a.bag, .int .i64 a.sl, .int .i64 a.amount, .int .i64 a.written]
      have Iblk1 := Iblk.alloc (.cells #[.int .u8 a.kind, .int .i64 a.window, .int .i64 a.bag, .int .i64 a.sl, .int .i64 a.amount, .int .i64 a.written] 51)
      have Iled1 := Iled.ext (ext_alloc wr (.cells #[.int .u8 a.kind, .int .i64 a.window, .int .i64 a.bag, .int .i64 a.sl, .int .i64 a.amount, .int .i64 a.written] 51))
      have Iown1 := Iown.alloc (.cells #[.int .u8 a.kind, .int .i64 a.window, .int .i64 a.bag, .int .i64 a.sl, .int .i64 a.amount, .int .i64 a.written] 51)
      have Ibel1 : Dr.Bel [w.heap.size] W7 (wr.alloc (.cells #[.int .u8 a.kind, .int .i64 a.window, .int .i64 a.bag, .int .i64 a.sl, .int .i64 a.amount, .int .i64 a.written] 51)) := Ibel.then_below ((ext_alloc _ _).mono hsw)
      have hY0 : w.heap.size < wr.heap.size := by omega
      change Blk (wr.alloc (.cells #[.int .u8 a.kind, .int .i64 a.window, .int .i64 a.bag, .int .i64 a.sl, .int .i64 a.amount, .int .i64 a.written] 51)) _ _ _ at hY
      clear Iblk Iled Iown Ibel z0 z1 z2 z3 z4 z5
      generalize hwr : wr.heap.size = Y at *
      generalize wr.alloc (.cells #[.int .u8 a.kind, .int .i64 a.window, .int .i64 a.bag, .int .i64 a.sl, .int .i64 a.amount, .int .i64 a.written] 51) = W8 at *
      clear hwr wr
      have x0 : W8.cell? ⟨w.heap.size, 0, none⟩ = _ := Iblk1.cell (i := 0) rfl
      have x1 : W8.cell? ⟨w.heap.size, 1, none⟩ = _ := Iblk1.cell (i := 1) rfl
      have x2 : W8.cell? ⟨w.heap.size, 2, none⟩ = _ := Iblk1.cell (i := 2) rfl
      have x3 : W8.cell? ⟨w.heap.size, 3, none⟩ = _ := Iblk1.cell (i := 3) rfl
      have x4 : W8.cell? ⟨w.heap.size, 4, none⟩ = _ := Iblk1.cell (i := 4) rfl
      have x5 : W8.cell? ⟨w.heap.size, 5, none⟩ = _ := Iblk1.cell (i := 5) rfl
      have x6 : W8.cell? ⟨w.heap.size, 6, none⟩ = _ := Iblk1.cell (i := 6) rfl
      have x7 : W8.cell? ⟨w.heap.size, 7, none⟩ = _ := Iblk1.cell (i := 7) rfl
      have y0 : W8.cell? ⟨Y, 0, none⟩ = _ := hY.cell (i := 0) rfl
      have y1 : W8.cell? ⟨Y, 1, none⟩ = _ := hY.cell (i := 1) rfl
      have y2 : W8.cell? ⟨Y, 2, none⟩ = _ := hY.cell (i := 2) rfl
      have y3 : W8.cell? ⟨Y, 3, none⟩ = _ := hY.cell (i := 3) rfl
      have y4 : W8.cell? ⟨Y, 4, none⟩ = _ := hY.cell (i := 4) rfl
      have y5 : W8.cell? ⟨Y, 5, none⟩ = _ := hY.cell (i := 5) rfl
      have CD := Lib.hid (do_any cur a A1 n1 c1 B1 m1 d1 D1 q1 e1 W8 Iled1.m Hcm.out hq1')
      unfold ledV Act.val at CD
      generalize hdl : doL cur a = dn at *
      have Hdl := Lib.hid hdl
      clear hdl
      obtain ⟨nx, er⟩ := dn
      simp only at CD Hs
      go_wp2_with fail
      refine CD.out.mono ?_; rintro r W9 ⟨v9, rfl, ⟨A2, n2, c2, B2, m2, d2, D2, q2, e2, rfl, F9⟩, hb9⟩
      unfold ledV
      have hs8 := Ibel1.size
      have hs9 := hb9.size
      have Iblk2 := Iblk1.ext hb9
      have Iled2 := Iled1.ext hb9
      have Iown2 := Iown1.ext hb9
      have Ibel2 : Dr.Bel [w.heap.size] W7 W9 := Ibel1.then_below (hb9.mono hs8)
      have F9' := F9.older (a := W3) (by omega)
      have hdis9 : ∀ g, u7.ownBlock = some g → A2.map (·.block) ≠ some g ∧ B2.map (·.block) ≠ some g ∧ D2.map (·.block) ≠ some g := fun g hg => by
        have h1 := (Iown1.lt hg).2
        exact ⟨fun e => by have := (F9.fa g e).1; omega, fun e => by have := (F9.fb g e).1; omega, fun e => by have := (F9.fd g e).1; omega⟩
      clear Iblk1 Iled1 Iown1 Ibel1 F9 hb9 CD x0 x1 x2 x3 x4 x5 x6 x7 y0 y1 y2 y3 y4 y5 hY
      go_upto_region 11 with fail
      have hN := Blk.new W9 34 [.slice A2 n2 c2, .slice B2 m2 d2, .int .i64 nx.office, .int .i64 nx.bank, .int .i64 nx.begun, .int .i64 nx.inn, .int .i64 nx.out, .slice D2 q2 e2]
      have Iblk3 := Iblk2.alloc (.cells #[.slice A2 n2 c2, .slice B2 m2 d2, .int .i64 nx.office, .int .i64 nx.bank, .int .i64 nx.begun, .int .i64 nx.inn, .int .i64 nx.out, .slice D2 q2 e2] 34)
      have Iled3 := Iled2.ext (ext_alloc W9 (.cells #[.slice A2 n2 c2, .slice B2 m2 d2, .int .i64 nx.office, .int .i64 nx.bank, .int .i64 nx.begun, .int .i64 nx.inn, .int .i64 nx.out, .slice D2 q2 e2] 34))
      have F3 := F9'.ext (ext_alloc W9 (.cells #[.slice A2 n2 c2, .slice B2 m2 d2, .int .i64 nx.office, .int .i64 nx.bank, .int .i64 nx.begun, .int .i64 nx.inn, .int .i64 nx.out, .slice D2 q2 e2] 34))
      have Iown3 := Iown2.alloc (.cells #[.slice A2 n2 c2, .slice B2 m2 d2, .int .i64 nx.office, .int .i64 nx.bank, .int .i64 nx.begun, .int .i64 nx.inn, .int .i64 nx.out, .slice D2 q2 e2] 34)
      have Ibel3 : Dr.Bel [w.heap.size] W7 (W9.alloc (.cells #[.slice A2 n2 c2, .slice B2 m2 d2, .int .i64 nx.office, .int .i64 nx.bank, .int .i64 nx.begun, .int .i64 nx.inn, .int .i64 nx.out, .slice D2 q2 e2] 34)) := Ibel2.then_below ((ext_alloc _ _).mono (Nat.le_trans hs8 hs9))
      have hF9 : w.heap.size < W9.heap.size := by omega
      have hdn : ∀ g, u7.ownBlock = some g → A2.map (·.block) ≠ some g ∧ B2.map (·.block) ≠ some g ∧ D2.map (·.block) ≠ some g := hdis9
      change Blk (W9.alloc (.cells #[.slice A2 n2 c2, .slice B2 m2 d2, .int .i64 nx.office, .int .i64 nx.bank, .int .i64 nx.begun, .int .i64 nx.inn, .int .i64 nx.out, .slice D2 q2 e2] 34)) _ _ _ at hN
      clear Iblk2 Iled2 Iown2 Ibel2 F9'
      generalize hN9 : W9.heap.size = N at *
      generalize W9.alloc (.cells #[.slice A2 n2 c2, .slice B2 m2 d2, .int .i64 nx.office, .int .i64 nx.bank, .int .i64 nx.begun, .int .i64 nx.inn, .int .i64 nx.out, .slice D2 q2 e2] 34) = W10 at *
      clear hN9 W9
      by_cases he : er = 0
      · subst he
        simp only [if_true] at Hs
        have x0 : W10.cell? ⟨w.heap.size, 0, none⟩ = _ := Iblk3.cell (i := 0) rfl
        have x1 : W10.cell? ⟨w.heap.size, 1, none⟩ = _ := Iblk3.cell (i := 1) rfl
        have x2 : W10.cell? ⟨w.heap.size, 2, none⟩ = _ := Iblk3.cell (i := 2) rfl
        have x3 : W10.cell? ⟨w.heap.size, 3, none⟩ = _ := Iblk3.cell (i := 3) rfl
        have x4 : W10.cell? ⟨w.heap.size, 4, none⟩ = _ := Iblk3.cell (i := 4) rfl
        have x5 : W10.cell? ⟨w.heap.size, 5, none⟩ = _ := Iblk3.cell (i := 5) rfl
        have x6 : W10.cell? ⟨w.heap.size, 6, none⟩ = _ := Iblk3.cell (i := 6) rfl
        have x7 : W10.cell? ⟨w.heap.size, 7, none⟩ = _ := Iblk3.cell (i := 7) rfl
        have f0 := Iblk3.free 0
        have f1 := Iblk3.free 1
        have f2 := Iblk3.free 2
        have f3 := Iblk3.free 3
        have f4 := Iblk3.free 4
        have f5 := Iblk3.free 5
        have f6 := Iblk3.free 6
        have f7 := Iblk3.free 7
        have y0 : W10.cell? ⟨N, 0, none⟩ = _ := hN.cell (i := 0) rfl
        have y1 : W10.cell? ⟨N, 1, none⟩ = _ := hN.cell (i := 1) rfl
        have y2 : W10.cell? ⟨N, 2, none⟩ = _ := hN.cell (i := 2) rfl
        have y3 : W10.cell? ⟨N, 3, none⟩ = _ := hN.cell (i := 3) rfl
        have y4 : W10.cell? ⟨N, 4, none⟩ = _ := hN.cell (i := 4) rfl
        have y5 : W10.cell? ⟨N, 5, none⟩ = _ := hN.cell (i := 5) rfl
        have y6 : W10.cell? ⟨N, 6, none⟩ = _ := hN.cell (i := 6) rfl
        have y7 : W10.cell? ⟨N, 7, none⟩ = _ := hN.cell (i := 7) rfl
        go_upto_region 13 with fail
        generalize hWf : World.setCell _ _ (Value.slice D2 q2 e2) = Wf
        have Iblk4 := Iblk3.put_eq [.slice A2 n2 c2, .slice B2 m2 d2, .int .i64 nx.office, .int .i64 nx.bank, .int .i64 nx.begun, .int .i64 nx.inn, .int .i64 nx.out, .slice D2 q2 e2] hWf rfl
        have hbf : Dr.Bel [w.heap.size] W10 Wf := bel_put_eq [.slice A2 n2 c2, .slice B2 m2 d2, .int .i64 nx.office, .int .i64 nx.bank, .int .i64 nx.begun, .int .i64 nx.inn, .int .i64 nx.out, .slice D2 q2 e2] hWf
        have Iown4 : OwnL Wf W7.heap.size 36 1 encI u7 es := by
          rw [← hWf]
          iterate 8 (refine OwnL.put ?_ (fun hk => by have := Iown3.lt hk; (try simp only at this); omega) _)
          exact Iown3
        have F4 := F3.bel hbf (by simp; omega)
        have Ibel4 := Ibel3.trans hbf
        clear hWf x0 x1 x2 x3 x4 x5 x6 x7 y0 y1 y2 y3 y4 y5 y6 y7 f0 f1 f2 f3 f4 f5 f6 f7 Iblk3 F3 Iown3 Ibel3 hbf hN Iled3
        have hnew := Blk.new Wf 36 [.int .i64 0]
        have hsB := Ibel4.size
        go_wp2_with (at_builtin; refine app1 encI 35 36 1 8 et94 (by decide) (by decide) encI_len encI_one rfl _ _ rfl W7.heap.size _ es rfl (Iown4.alloc _) Wf.heap.size rfl 0 (encI_cell (hnew.cell rfl)) (by have := Hes.out; omega) (by simp; omega) ?_; intro g' cap' w' hown' hb3 hgr hat)
        have hv : ∀ g, u7.ownBlock = some g → W7.heap.size ≤ g ∧ g < Wf.heap.size := fun g hg => Iown4.lt hg
        go_roundw
        case rel =>
          refine ⟨k + 1, A2, n2, c2, B2, m2, d2, D2, q2, e2, by go_num, by omega, ⟨by rw [Hs.out]; exact hown', by rw [Hs.out]; exact kept_blk (Iblk4.alloc _) hgr (fun e => by have := hv _ e; omega), by rw [Hs.out]; exact (F4.ext (ext_alloc _ _)).kept hgr hdn, (Ibel4.then_below ((ext_alloc _ _).mono hsB)).then_below hb3, fun g hg => ?_⟩⟩
          cases hg
          rcases hat with h1 | h1
          · exact hdn _ h1
          · rw [World.size_alloc] at h1
            exact ⟨fun e => by have h2 : g' < _ := (F4.fa _ e).2; omega, fun e => by have h2 : g' < _ := (F4.fb _ e).2; omega, fun e => by have h2 : g' < _ := (F4.fd _ e).2; omega⟩
        case measure => simp [intOf]; omega
      · rw [if_neg he] at Hs
        go_upto_region 13 with fail
        have hnew := Blk.new W10 36 [.int .i64 er]
        have hsB := Ibel3.size
        go_wp2_with (at_builtin; refine app1 encI 35 36 1 8 et94 (by decide) (by decide) encI_len encI_one rfl _ _ rfl W7.heap.size _ es rfl (Iown3.alloc _) W10.heap.size rfl er (encI_cell (hnew.cell rfl)) (by have := Hes.out; omega) (by simp; omega) ?_; intro g' cap' w' hown' hb3 hgr hat)
        have hv : ∀ g, u7.ownBlock = some g → W7.heap.size ≤ g ∧ g < W10.heap.size := fun g hg => Iown3.lt hg
        go_roundw
        case rel =>
          refine ⟨k + 1, A1, n1, c1, B1, m1, d1, D1, q1, e1, by go_num, by omega, ⟨by rw [Hs.out]; exact hown', by rw [Hs.out]; exact kept_blk (Iblk3.alloc _) hgr (fun e => by have := hv _ e; omega), by rw [Hs.out]; exact (Iled3.ext (ext_alloc _ _)).kept hgr Idis, (Ibel3.then_below ((ext_alloc _ _).mono hsB)).then_below hb3, fun g hg => ?_⟩⟩
          cases hg
          rcases hat with h1 | h1
          · exact Idis _ h1
          · rw [World.size_alloc] at h1
            exact ⟨fun e => by have h2 : g' < _ := (Iled3.fa _ e).2; omega, fun e => by have h2 : g' < _ := (Iled3.fb _ e).2; omega, fun e => by have h2 : g' < _ := (Iled3.fd _ e).2; omega⟩
        case measure => simp [intOf]; omega
    · obtain rfl : k = k0 := by omega
      have hr1 := hr.out
      rw [List.take_of_length_le (by rw [Hk.out]; omega)] at Iown Iblk Iled
      generalize (runL l acts).1 = fl at *
      generalize (runL l acts).2 = fe at *
      subst hr1
      have hRr := Ibel.blk hR7 (by simp)
      have x0 : wr.cell? ⟨w.heap.size, 0, none⟩ = _ := Iblk.cell (i := 0) rfl
      have x1 : wr.cell? ⟨w.heap.size, 1, none⟩ = _ := Iblk.cell (i := 1) rfl
      have x2 : wr.cell? ⟨w.heap.size, 2, none⟩ = _ := Iblk.cell (i := 2) rfl
      have x3 : wr.cell? ⟨w.heap.size, 3, none⟩ = _ := Iblk.cell (i := 3) rfl
      have x4 : wr.cell? ⟨w.heap.size, 4, none⟩ = _ := Iblk.cell (i := 4) rfl
      have x5 : wr.cell? ⟨w.heap.size, 5, none⟩ = _ := Iblk.cell (i := 5) rfl
      have x6 : wr.cell? ⟨w.heap.size, 6, none⟩ = _ := Iblk.cell (i := 6) rfl
      have x7 : wr.cell? ⟨w.heap.size, 7, none⟩ = _ := Iblk.cell (i := 7) rfl
      have y0 : wr.cell? ⟨w.heap.size + 1, 0, none⟩ = _ := hRr.cell (i := 0) rfl
      have y1 : wr.cell? ⟨w.heap.size + 1, 1, none⟩ = _ := hRr.cell (i := 1) rfl
      have y2 : wr.cell? ⟨w.heap.size + 1, 2, none⟩ = _ := hRr.cell (i := 2) rfl
      have y3 : wr.cell? ⟨w.heap.size + 1, 3, none⟩ = _ := hRr.cell (i := 3) rfl
      have y4 : wr.cell? ⟨w.heap.size + 1, 4, none⟩ = _ := hRr.cell (i := 4) rfl
      have y5 : wr.cell? ⟨w.heap.size + 1, 5, none⟩ = _ := hRr.cell (i := 5) rfl
      have y6 : wr.cell? ⟨w.heap.size + 1, 6, none⟩ = _ := hRr.cell (i := 6) rfl
      have y7 : wr.cell? ⟨w.heap.size + 1, 7, none⟩ = _ := hRr.cell (i := 7) rfl
      have f0 := hRr.free 0
      have f1 := hRr.free 1
      have f2 := hRr.free 2
      have f3 := hRr.free 3
      have f4 := hRr.free 4
      have f5 := hRr.free 5
      have f6 := hRr.free 6
      have f7 := hRr.free 7
      go_wp2
      generalize hWf : World.setCell _ _ _ = Wf
      have hYf := hRr.put_eq [.slice A1 n1 c1, .slice B1 m1 d1, .int .i64 fl.office, .int .i64 fl.bank, .int .i64 fl.begun, .int .i64 fl.inn, .int .i64 fl.out, .slice D1 q1 e1] hWf rfl
      have hbf : Dr.Bel [w.heap.size + 1] wr Wf := bel_put_eq [.slice A1 n1 c1, .slice B1 m1 d1, .int .i64 fl.office, .int .i64 fl.bank, .int .i64 fl.begun, .int .i64 fl.inn, .int .i64 fl.out, .slice D1 q1 e1] hWf
      have Iown4 : OwnL Wf W7.heap.size 36 1 encI u7 fe := by
        rw [← hWf]
        iterate 8 (refine OwnL.put ?_ (fun hk => by have := Iown.lt hk; (try simp only at this); omega) _)
        exact Iown
      clear hWf x0 x1 x2 x3 x4 x5 x6 x7 y0 y1 y2 y3 y4 y5 y6 y7 f0 f1 f2 f3 f4 f5 f6 f7
      have o0 : Wf.cell? ⟨w.heap.size + 1, 0, none⟩ = _ := hYf.cell (i := 0) rfl
      have o1 : Wf.cell? ⟨w.heap.size + 1, 1, none⟩ = _ := hYf.cell (i := 1) rfl
      have o2 : Wf.cell? ⟨w.heap.size + 1, 2, none⟩ = _ := hYf.cell (i := 2) rfl
      have o3 : Wf.cell? ⟨w.heap.size + 1, 3, none⟩ = _ := hYf.cell (i := 3) rfl
      have o4 : Wf.cell? ⟨w.heap.size + 1, 4, none⟩ = _ := hYf.cell (i := 4) rfl
      have o5 : Wf.cell? ⟨w.heap.size + 1, 5, none⟩ = _ := hYf.cell (i := 5) rfl
      have o6 : Wf.cell? ⟨w.heap.size + 1, 6, none⟩ = _ := hYf.cell (i := 6) rfl
      have o7 : Wf.cell? ⟨w.heap.size + 1, 7, none⟩ = _ := hYf.cell (i := 7) rfl
      refine bodyPost_ret (v := .tuple #[.agg #[.slice A1 n1 c1, .slice B1 m1 d1, .int .i64 fl.office, .int .i64 fl.bank, .int .i64 fl.begun, .int .i64 fl.inn, .int .i64 fl.out, .slice D1 q1 e1], u7, .int .i64 0]) (by simp [results, Tryz.results8, go_sem, o0, o1, o2, o3, o4, o5, o6, o7]) rfl ?_
      have hsf := hbf.size
      have hbo : Below w.heap.size w Wf := (hbw7.trans (Ibel.old (by omega) (by simp))).trans (hbf.old (by omega) (by simp))
      exact ⟨_, _, rfl, ⟨_, _, _, _, _, _, _, _, _, rfl, (Iled.bel hbf (by simp; omega)).older (by omega)⟩, FreshL.of_own Iown4 encI_len (by omega), hbo⟩
end Go.Proofs.YtnjdlhhgnamigaaGreat

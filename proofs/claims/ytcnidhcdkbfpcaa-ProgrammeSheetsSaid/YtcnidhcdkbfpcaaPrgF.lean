/- Walk: an act in its place. -/
import Derived.Test.YtcnidhcdkbfpcaaPrgE
namespace Go.Pg
open Go.RowKit Go.Bs Go.Pl
/-- an act in its place -/
def plC (x : AcV) (i last sec : Int) (set : Nat) : List Value := [.int .i64 x.a.min, .int .i64 x.a.ten, .int .u16 x.a.rigs, .slice x.C x.a.casts.length x.c, .bool x.a.spare, .int .i64 i, .int .i64 last, .int .i64 sec, .int .u16 set]
def plV (x : AcV) (i last sec : Int) (set : Nat) : Value := .agg #[.int .i64 x.a.min, .int .i64 x.a.ten, .int .u16 x.a.rigs, .slice x.C x.a.casts.length x.c, .bool x.a.spare, .int .i64 i, .int .i64 last, .int .i64 sec, .int .u16 set]
end Go.Pg
namespace Go.Proofs.Ytcnidhcdkbfpcaa
open Go.RowKit Go.Bs Go.Pg Go.Pl Go.Sort
set_option maxRecDepth 100000 in
theorem place_any (s : Sh) (p : ShP) (i : Nat) (last sec : Int) (set : Nat) (w : World) (h : ShM w s p) (hi : i < s.acts.length) :
    Calls Try.prog 78 #[shV s p, .int .i64 i, .int .i64 last, .int .i64 sec, .int .u16 set] w fun e w' => (∃ x ∈ p.av, x.a = s.act i ∧ e = .returned (plV x i last sec set)) ∧ Below w.heap.size w w' := by
  obtain ⟨x, hxm, hxa, b, o, hA, hb, a0, a1, a2, a3, a4, -⟩ := h.av' hi
  have hin : (i : Int) < (s.acts.length : Int) := by omega
  have HA := Lib.hid hA
  have Hx := Lib.hid hxa
  have Hxm := Lib.hid hxm
  clear h hA hxa hxm
  unfold shV
  have hb0 : Below w.heap.size w ((w.alloc (.cells (shC s p).toArray 35)).alloc (.cells #[.int .i64 0, .int .i64 0, .int .u16 0, .slice none 0 0, .bool false, .int .i64 0, .int .i64 0, .int .i64 0, .int .u16 0] 125)) := ((Below.refl _ _).alloc (Nat.le_refl _) _).alloc (by simp) _
  have hS := (Blk.new w 35 (shC s p)).alloc (.cells #[.int .i64 0, .int .i64 0, .int .u16 0, .slice none 0 0, .bool false, .int .i64 0, .int .i64 0, .int .i64 0, .int .u16 0] 125)
  have hP := Blk.new (w.alloc (.cells (shC s p).toArray 35)) 125 [.int .i64 0, .int .i64 0, .int .u16 0, .slice none 0 0, .bool false, .int .i64 0, .int .i64 0, .int .i64 0, .int .u16 0]
  simp only [World.size_alloc] at hP
  go_enter Try.func78, Try.ntmps78
  go_upto_region 1 with fail
  unfold shC at *
  change Blk ((w.alloc (.cells #[.slice p.A s.acts.length p.cA, .slice p.R s.rest.length p.cR, .slice p.I s.ins.length p.cI, .slice p.O s.outs.length p.cO, .int .i64 s.cover, .int .i64 s.dull, .slice p.B s.before.length p.cB] 35)).alloc (.cells #[.int .i64 0, .int .i64 0, .int .u16 0, .slice none 0 0, .bool false, .int .i64 0, .int .i64 0, .int .i64 0, .int .u16 0] 125)) _ _ _ at hS hP
  generalize (w.alloc (.cells #[.slice p.A s.acts.length p.cA, .slice p.R s.rest.length p.cR, .slice p.I s.ins.length p.cI, .slice p.O s.outs.length p.cO, .int .i64 s.cover, .int .i64 s.dull, .slice p.B s.before.length p.cB] 35)).alloc (.cells #[.int .i64 0, .int .i64 0, .int .u16 0, .slice none 0 0, .bool false, .int .i64 0, .int .i64 0, .int .i64 0, .int .u16 0] 125) = W0 at *
  have x0 : W0.cell? ⟨w.heap.size, 0, none⟩ = some (.slice (some ⟨b, o, none⟩) s.acts.length p.cA) := by rw [← HA.out]; exact hS.cell rfl
  have c0 : W0.cell? ⟨b, o + i * 5, none⟩ = _ := (hb0.cell hb).trans a0
  have c1 : W0.cell? ⟨b, o + i * 5 + 1, none⟩ = _ := (hb0.cell hb).trans a1
  have c2 : W0.cell? ⟨b, o + i * 5 + 2, none⟩ = _ := (hb0.cell hb).trans a2
  have c3 : W0.cell? ⟨b, o + i * 5 + 3, none⟩ = _ := (hb0.cell hb).trans a3
  have c4 : W0.cell? ⟨b, o + i * 5 + 4, none⟩ = _ := (hb0.cell hb).trans a4
  have y0 : W0.cell? ⟨w.heap.size + 1, 0, none⟩ = _ := hP.cell rfl
  have y1 : W0.cell? ⟨w.heap.size + 1, 1, none⟩ = _ := hP.cell rfl
  have y2 : W0.cell? ⟨w.heap.size + 1, 2, none⟩ = _ := hP.cell rfl
  have y3 : W0.cell? ⟨w.heap.size + 1, 3, none⟩ = _ := hP.cell rfl
  have y4 : W0.cell? ⟨w.heap.size + 1, 4, none⟩ = _ := hP.cell rfl
  have y5 : W0.cell? ⟨w.heap.size + 1, 5, none⟩ = _ := hP.cell rfl
  have y6 : W0.cell? ⟨w.heap.size + 1, 6, none⟩ = _ := hP.cell rfl
  have y7 : W0.cell? ⟨w.heap.size + 1, 7, none⟩ = _ := hP.cell rfl
  have y8 : W0.cell? ⟨w.heap.size + 1, 8, none⟩ = _ := hP.cell rfl
  have f0 := hP.free 0
  have f1 := hP.free 1
  have f2 := hP.free 2
  have f3 := hP.free 3
  have f4 := hP.free 4
  have f5 := hP.free 5
  have f6 := hP.free 6
  have f7 := hP.free 7
  have f8 := hP.free 8
  clear a0 a1 a2 a3 a4 hS
  go_wp2
  have e1 : puts W0 (w.heap.size + 1) 0 (plC x i last sec set) = (((((((((W0.setCell ⟨w.heap.size + 1, 0, none⟩ (.int .i64 x.a.min)).setCell ⟨w.heap.size + 1, 1, none⟩ (.int .i64 x.a.ten)).setCell ⟨w.heap.size + 1, 2, none⟩ (.int .u16 x.a.rigs)).setCell ⟨w.heap.size + 1, 3, none⟩ (.slice x.C x.a.casts.length x.c)).setCell ⟨w.heap.size + 1, 4, none⟩ (.bool x.a.spare)).setCell ⟨w.heap.size + 1, 5, none⟩ (.int .i64 i)).setCell ⟨w.heap.size + 1, 6, none⟩ (.int .i64 last)).setCell ⟨w.heap.size + 1, 7, none⟩ (.int .i64 sec)).setCell ⟨w.heap.size + 1, 8, none⟩ (.int .u16 set)) := rfl
  have r1 := hP.put_eq (plC x i last sec set) e1 rfl
  have b1 := bel_put_eq (plC x i last sec set) e1
  have hb1 := hb0.trans (Dr.Bel.old (n := w.heap.size) b1 (by have := hP.lt; omega) (by simp))
  clear y0 y1 y2 y3 y4 y5 y6 y7 y8 f0 f1 f2 f3 f4 f5 f6 f7 f8 c0 c1 c2 c3 c4 x0 e1 b1
  generalize (((((((((W0.setCell ⟨w.heap.size + 1, 0, none⟩ (.int .i64 x.a.min)).setCell ⟨w.heap.size + 1, 1, none⟩ (.int .i64 x.a.ten)).setCell ⟨w.heap.size + 1, 2, none⟩ (.int .u16 x.a.rigs)).setCell ⟨w.heap.size + 1, 3, none⟩ (.slice x.C x.a.casts.length x.c)).setCell ⟨w.heap.size + 1, 4, none⟩ (.bool x.a.spare)).setCell ⟨w.heap.size + 1, 5, none⟩ (.int .i64 i)).setCell ⟨w.heap.size + 1, 6, none⟩ (.int .i64 last)).setCell ⟨w.heap.size + 1, 7, none⟩ (.int .i64 sec)).setCell ⟨w.heap.size + 1, 8, none⟩ (.int .u16 set)) = W1 at *
  have z0 : W1.cell? ⟨w.heap.size + 1, 0, none⟩ = _ := r1.cell (i := 0) rfl
  have z1 : W1.cell? ⟨w.heap.size + 1, 1, none⟩ = _ := r1.cell (i := 1) rfl
  have z2 : W1.cell? ⟨w.heap.size + 1, 2, none⟩ = _ := r1.cell (i := 2) rfl
  have z3 : W1.cell? ⟨w.heap.size + 1, 3, none⟩ = _ := r1.cell (i := 3) rfl
  have z4 : W1.cell? ⟨w.heap.size + 1, 4, none⟩ = _ := r1.cell (i := 4) rfl
  have z5 : W1.cell? ⟨w.heap.size + 1, 5, none⟩ = _ := r1.cell (i := 5) rfl
  have z6 : W1.cell? ⟨w.heap.size + 1, 6, none⟩ = _ := r1.cell (i := 6) rfl
  have z7 : W1.cell? ⟨w.heap.size + 1, 7, none⟩ = _ := r1.cell (i := 7) rfl
  have z8 : W1.cell? ⟨w.heap.size + 1, 8, none⟩ = _ := r1.cell (i := 8) rfl
  refine bodyPost_ret (v := plV x i last sec set) (by unfold plV; simp [results, Try.results78, go_sem, z0, z1, z2, z3, z4, z5, z6, z7, z8]) rfl ?_
  exact ⟨⟨x, Hxm.out, Hx.out, rfl⟩, hb1⟩
end Go.Proofs.Ytcnidhcdkbfpcaa

/- Wagon: how lorries, things, packings lie in memory; words. -/
import Derived.Shelf.Abstract
import Derived.Deep.DeepCutAuto
import Derived.Deep.CutBlock
import Derived.Deep.CutRange
import Derived.Maps.RangeWalk
import Derived.Laws.EntriesVeiled
import Derived.RangeFuncNested
import Derived.RangeFuncBound
import Derived.RangeFuncCalls
import Derived.RangeFuncLeaves
import Derived.OwnWalkIn
import Derived.TacticsInMore
import Derived.LoopNIn
import Derived.LoopIn
import Derived.Sort.CutIn
import Derived.Test.YtbpmfaibcibleaaTooA
import Derived.Test.YtbpmfaibcibleaaWagP
import Derived.Test.YtbpmfaibcibleaaProg
namespace Go.Bs
open Go.RowKit
theorem Cells.at7 {α : Type} {w : World} {A : Option Addr} {enc : α → List Value} {l : List α} (h : Cells w A 7 enc l) {k : Nat} (hk : k < l.length) {v0 v1 v2 v3 v4 v5 v6 : Value} (he : enc l[k] = [v0, v1, v2, v3, v4, v5, v6]) :
    ∃ b off, A = some ⟨b, off, none⟩ ∧ b < w.heap.size ∧ w.cell? ⟨b, off + k * 7, none⟩ = some v0 ∧ w.cell? ⟨b, off + k * 7 + 1, none⟩ = some v1 ∧ w.cell? ⟨b, off + k * 7 + 2, none⟩ = some v2 ∧ w.cell? ⟨b, off + k * 7 + 3, none⟩ = some v3 ∧ w.cell? ⟨b, off + k * 7 + 4, none⟩ = some v4 ∧ w.cell? ⟨b, off + k * 7 + 5, none⟩ = some v5 ∧ w.cell? ⟨b, off + k * 7 + 6, none⟩ = some v6 := by
  obtain ⟨b, off, hA, hc⟩ := h.at hk
  rw [he] at hc
  have h0 := hc 0 v0 rfl
  exact ⟨b, off, hA, cell_lt h0, h0, hc 1 v1 rfl, hc 2 v2 rfl, hc 3 v3 rfl, hc 4 v4 rfl, hc 5 v5 rfl, hc 6 v6 rfl⟩
end Go.Bs
namespace Go.Wg
open Go.RowKit Go.Bs
def Th.enc (t : Th) : List Value := [.int .i64 t.long, .int .i64 t.high, .int .i64 t.mass, .int .i64 t.need]
def Th.val (t : Th) : Value := .agg #[.int .i64 t.long, .int .i64 t.high, .int .i64 t.mass, .int .i64 t.need]
def Br.enc (t : Br) : List Value := [.int .i64 t.limit, .int .i64 t.clear]
def Br.val (t : Br) : Value := .agg #[.int .i64 t.limit, .int .i64 t.clear]
def Ru.enc (t : Ru) : List Value := [.int .i64 t.drive, .int .i64 t.stint, .int .i64 t.brk, .int .i64 t.rest]
def Ru.val (t : Ru) : Value := .agg #[.int .i64 t.drive, .int .i64 t.stint, .int .i64 t.brk, .int .i64 t.rest]
/-- a lorry, and where its lanes lie -/
structure LoV where
  l : Lo
  A : Option Addr
  c : Nat
def LoV.enc (x : LoV) : List Value := [.slice x.A x.l.lanes.length x.c, .int .i64 x.l.height, .int .i64 x.l.carries, .int .i64 x.l.empty, .int .i64 x.l.rear, .int .i64 x.l.axle, .int .i64 x.l.deck]
def LoV.val (x : LoV) : Value := .agg #[.slice x.A x.l.lanes.length x.c, .int .i64 x.l.height, .int .i64 x.l.carries, .int .i64 x.l.empty, .int .i64 x.l.rear, .int .i64 x.l.axle, .int .i64 x.l.deck]
/-- a row, and where it lies -/
structure RwV where
  r : List Int
  A : Option Addr
  c : Nat
def RwV.val (x : RwV) : Value := .slice x.A x.r.length x.c
def RwV.enc (x : RwV) : List Value := [.slice x.A x.r.length x.c]
theorem th_len (x : Th) : (Th.enc x).length = 4 := rfl
theorem br_len (x : Br) : (Br.enc x).length = 2 := rfl
theorem lov_len (x : LoV) : (LoV.enc x).length = 7 := rfl
theorem rwv_len (x : RwV) : (RwV.enc x).length = 1 := rfl
theorem th_one (x : Th) : ∀ u ∈ Th.enc x, u.oneCell' = true := by intro u hu; simp [Th.enc] at hu; rcases hu with rfl | rfl | rfl | rfl <;> rfl
theorem br_one (x : Br) : ∀ u ∈ Br.enc x, u.oneCell' = true := by intro u hu; simp [Br.enc] at hu; rcases hu with rfl | rfl <;> rfl
theorem lov_one (x : LoV) : ∀ u ∈ LoV.enc x, u.oneCell' = true := by intro u hu; simp [LoV.enc] at hu; rcases hu with rfl | rfl | rfl | rfl | rfl | rfl | rfl <;> rfl
theorem rwv_one (x : RwV) : ∀ u ∈ RwV.enc x, u.oneCell' = true := by intro u hu; simp [RwV.enc] at hu; rw [hu]; rfl
/-- a job: a lorry with things -/
structure JbV where
  x : LoV
  T : Option Addr
  cT : Nat
def JbV.enc (v : JbV) (ts : List Th) : List Value := [.slice v.x.A v.x.l.lanes.length v.x.c, .int .i64 v.x.l.height, .int .i64 v.x.l.carries, .int .i64 v.x.l.empty, .int .i64 v.x.l.rear, .int .i64 v.x.l.axle, .int .i64 v.x.l.deck, .slice v.T ts.length v.cT]
def JbV.val (v : JbV) (ts : List Th) : Value := .agg #[.slice v.x.A v.x.l.lanes.length v.x.c, .int .i64 v.x.l.height, .int .i64 v.x.l.carries, .int .i64 v.x.l.empty, .int .i64 v.x.l.rear, .int .i64 v.x.l.axle, .int .i64 v.x.l.deck, .slice v.T ts.length v.cT]
structure JbM (w : World) (v : JbV) (ts : List Th) : Prop where
  lanes : Cells w v.x.A 1 encI v.x.l.lanes
  things : Cells w v.T 4 Th.enc ts
  sl : v.x.l.lanes.length ≤ 1000000
  st : ts.length ≤ 1000000
theorem JbM.ext {w w' : World} {v : JbV} {ts : List Th} (h : JbM w v ts) (hb : Below w.heap.size w w') : JbM w' v ts := ⟨h.lanes.ext hb, h.things.ext hb, h.sl, h.st⟩
/-- what is asked of a function value that a function is handed -/
def PredF {α : Type} (P : Program) (g : Nat) (fa lb : Array Value) (encv : α → Value) (p : α → Bool) (w : World) (l : List α) : Prop :=
  ∀ (W : World) (x : α), x ∈ l → Below w.heap.size w W → Calls P g (fa ++ #[encv x] ++ lb) W fun e w' => e = .returned (.bool (p x)) ∧ Below W.heap.size W w'
theorem PredF.later {α : Type} {P : Program} {g : Nat} {fa lb : Array Value} {encv : α → Value} {p : α → Bool} {w W : World} {l : List α} (h : PredF P g fa lb encv p w l) (hb : Below w.heap.size w W) : PredF P g fa lb encv p W l :=
  fun W' x hx hb' => h W' x hx (ext_trans hb hb')
end Go.Wg
namespace Go.Proofs.Ytbpmfaibcibleaa
open Go.RowKit Go.Bs Go.Wg Go.Pl Go.Sort
theorem sz3 : ∀ w, (sizeOf 3).run Try.prog w = .ok 1 w := fun w => by kernel_rfl
theorem info3 : (Try.prog.info? 3).map (fun i => (i.zero, i.size, i.bytes)) = some (some (.int .i64 0), 1, 8) := by kernel_rfl
theorem et35 : ElemT Try.prog 35 3 1 8 := ElemT.mk Try.underlying35 info3 rfl
theorem within_any (n lo hi : Int) (w : World) :
    Calls Try.prog 64 #[.int .i64 n, .int .i64 lo, .int .i64 hi] w fun e w' => e = .returned (.bool (btw n lo hi)) ∧ w = w' := by
  unfold btw
  generalize hres : decide (lo ≤ n ∧ n ≤ hi) = res
  have Hres := Lib.hid hres
  clear hres
  by_cases h : lo ≤ n
  · go_enter Try.func64, Try.ntmps64
    go_wp2
    go_ret
    exact ⟨ret_congr (bool_congr (by rw [← Hres.out]; simp [h])), rfl⟩
  · go_enter Try.func64, Try.ntmps64
    go_wp2
    go_ret
    exact ⟨ret_congr (bool_congr (by rw [← Hres.out]; simp; omega)), rfl⟩
theorem In_any (n lo hi : Int) (w : World) :
    Calls Try.prog 21 #[.int .i64 n, .int .i64 lo, .int .i64 hi] w fun e w' => e = .returned (.bool (btw n lo hi)) ∧ w = w' := by
  unfold btw
  generalize hres : decide (lo ≤ n ∧ n ≤ hi) = res
  have Hres := Lib.hid hres
  clear hres
  by_cases h : lo ≤ n
  · go_enter Try.func21, Try.ntmps21
    go_wp2
    go_ret
    exact ⟨ret_congr (bool_congr (by rw [← Hres.out]; simp [h])), rfl⟩
  · go_enter Try.func21, Try.ntmps21
    go_wp2
    go_ret
    exact ⟨ret_congr (bool_congr (by rw [← Hres.out]; simp; omega)), rfl⟩
end Go.Proofs.Ytbpmfaibcibleaa

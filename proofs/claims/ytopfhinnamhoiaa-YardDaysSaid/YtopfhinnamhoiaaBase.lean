/- Slices that read as lists; worlds in which what lay lies unturned. -/
import Derived.WalkKit
import Derived.WalkSpells
import Derived.Outline
import Derived.Deep.QuietTactic
import Derived.BigQuiet
import Derived.Deep.Draws
import Derived.Deep.DrawnRows
import Derived.Deep.RegionWith
import Derived.Deep.LoopGhost
import Derived.Deep.DeepFit
import Derived.Deep.DeepMust
import Derived.Lib.Hide
import Derived.Lib.QuietBelow
import Derived.Test.YtopfhinnamhoiaaDraw
import Derived.Test.YtopfhinnamhoiaaPlain
namespace Go.Bs
open Go.RowKit Go.Sort Go.Pl

theorem ret_congr {u v : Value} (h : u = v) : Ending.returned u = .returned v := by rw [h]
theorem int_congr {k : IntKind} {a b : Int} (h : a = b) : Value.int k a = Value.int k b := by rw [h]
theorem bool_congr {a b : Bool} (h : a = b) : Value.bool a = Value.bool b := by rw [h]

theorem ext_trans {a b c : World} (h : Below a.heap.size a b) (k : Below b.heap.size b c) : Below a.heap.size a c := h.trans (k.mono h.size)
theorem ext_refl (w : World) : Below w.heap.size w w := Below.refl _ _
theorem ext_alloc (w : World) (o : Obj) : Below w.heap.size w (w.alloc o) := (Below.refl _ _).alloc (Nat.le_refl _) _
theorem ext_drew (w : World) : Below w.heap.size w w.drew := (Below.refl _ _).drew
theorem bcell {W w1 : World} (hb : Below W.heap.size W w1) : (∀ b o, b < W.heap.size → w1.cell? ⟨b, o, none⟩ = W.cell? ⟨b, o, none⟩) ∧ (∀ b o, b < W.heap.size → w1.frozen? ⟨b, o, none⟩ = W.frozen? ⟨b, o, none⟩) :=
  ⟨fun b o h => hb.cell (p := ⟨b, o, none⟩) h, fun b o h => hb.frozen (p := ⟨b, o, none⟩) h⟩
theorem cell_lt {w : World} {b o : Nat} {v : Value} (h : w.cell? ⟨b, o, none⟩ = some v) : b < w.heap.size := block_lt_of_cell h
theorem cell_ext {w w' : World} {b o : Nat} {v : Value} (h : w.cell? ⟨b, o, none⟩ = some v) (hb : Below w.heap.size w w') : w'.cell? ⟨b, o, none⟩ = some v :=
  (hb.cell (p := ⟨b, o, none⟩) (cell_lt h)).trans h

/-- From A on lie the elements of l, each sz cells long. -/
def Cells {α : Type} (w : World) (A : Option Addr) (sz : Nat) (enc : α → List Value) (l : List α) : Prop :=
  ∀ i x, l[i]? = some x → ∃ b off, A = some ⟨b, off, none⟩ ∧ ∀ j y, (enc x)[j]? = some y → w.cell? ⟨b, off + (i * sz + j), none⟩ = some y

def encI (x : Int) : List Value := [.int .i64 x]

section
variable {α : Type} {w w' : World} {A : Option Addr} {sz : Nat} {enc : α → List Value} {l : List α}
theorem Cells.nil : Cells w A sz enc ([] : List α) := fun i x h => by simp at h
theorem Cells.keep (h : Cells w A sz enc l) (hk : ∀ p : Addr, p.block < w.heap.size → A.map (·.block) = some p.block → w'.cell? p = w.cell? p) : Cells w' A sz enc l := fun i x hi => by
  obtain ⟨b, off, hA, hc⟩ := h i x hi
  refine ⟨b, off, hA, fun j y hj => ?_⟩
  have := hc j y hj
  rw [hk _ (cell_lt this) (by rw [hA]; rfl)]; exact this
theorem Cells.ext (h : Cells w A sz enc l) (hb : Below w.heap.size w w') : Cells w' A sz enc l := h.keep fun _ hp _ => hb.cell hp
theorem Cells.alloc (h : Cells w A sz enc l) (o : Obj) : Cells (w.alloc o) A sz enc l := h.ext (ext_alloc w o)
theorem Cells.drew (h : Cells w A sz enc l) : Cells w.drew A sz enc l := h.ext (ext_drew w)
theorem Cells.setCell (h : Cells w A sz enc l) {p : Addr} (hp : A.map (·.block) ≠ some p.block) (u : Value) : Cells (w.setCell p u) A sz enc l :=
  h.keep fun q _ hq => World.cell?_setCell_other w p q u (fun e => by subst e; exact hp hq)
theorem Cells.at (h : Cells w A sz enc l) {k : Nat} (hk : k < l.length) : ∃ b off, A = some ⟨b, off, none⟩ ∧ ∀ j y, (enc l[k])[j]? = some y → w.cell? ⟨b, off + (k * sz + j), none⟩ = some y :=
  h k l[k] (List.getElem?_eq_getElem hk)
theorem Cells.at1 {enc : α → List Value} (h : Cells w A 1 enc l) {k : Nat} (hk : k < l.length) {v : Value} (he : enc l[k] = [v]) : ∃ b off, A = some ⟨b, off, none⟩ ∧ b < w.heap.size ∧ w.cell? ⟨b, off + k, none⟩ = some v := by
  obtain ⟨b, off, hA, hc⟩ := h.at hk
  rw [he] at hc
  have h0 := hc 0 v rfl
  simp only [Nat.mul_one, Nat.add_zero] at h0
  exact ⟨b, off, hA, cell_lt h0, h0⟩
theorem Cells.at2 {enc : α → List Value} (h : Cells w A 2 enc l) {k : Nat} (hk : k < l.length) {v0 v1 : Value} (he : enc l[k] = [v0, v1]) :
    ∃ b off, A = some ⟨b, off, none⟩ ∧ b < w.heap.size ∧ w.cell? ⟨b, off + k * 2, none⟩ = some v0 ∧ w.cell? ⟨b, off + k * 2 + 1, none⟩ = some v1 := by
  obtain ⟨b, off, hA, hc⟩ := h.at hk
  rw [he] at hc
  have h0 := hc 0 v0 rfl
  have h1 := hc 1 v1 rfl
  exact ⟨b, off, hA, cell_lt h0, h0, h1⟩
theorem Cells.at3 {enc : α → List Value} (h : Cells w A 3 enc l) {k : Nat} (hk : k < l.length) {v0 v1 v2 : Value} (he : enc l[k] = [v0, v1, v2]) :
    ∃ b off, A = some ⟨b, off, none⟩ ∧ b < w.heap.size ∧ w.cell? ⟨b, off + k * 3, none⟩ = some v0 ∧ w.cell? ⟨b, off + k * 3 + 1, none⟩ = some v1 ∧ w.cell? ⟨b, off + k * 3 + 2, none⟩ = some v2 := by
  obtain ⟨b, off, hA, hc⟩ := h.at hk
  rw [he] at hc
  have h0 := hc 0 v0 rfl
  exact ⟨b, off, hA, cell_lt h0, h0, hc 1 v1 rfl, hc 2 v2 rfl⟩
theorem Cells.at4 {enc : α → List Value} (h : Cells w A 4 enc l) {k : Nat} (hk : k < l.length) {v0 v1 v2 v3 : Value} (he : enc l[k] = [v0, v1, v2, v3]) :
    ∃ b off, A = some ⟨b, off, none⟩ ∧ b < w.heap.size ∧ w.cell? ⟨b, off + k * 4, none⟩ = some v0 ∧ w.cell? ⟨b, off + k * 4 + 1, none⟩ = some v1 ∧ w.cell? ⟨b, off + k * 4 + 2, none⟩ = some v2 ∧ w.cell? ⟨b, off + k * 4 + 3, none⟩ = some v3 := by
  obtain ⟨b, off, hA, hc⟩ := h.at hk
  rw [he] at hc
  have h0 := hc 0 v0 rfl
  exact ⟨b, off, hA, cell_lt h0, h0, hc 1 v1 rfl, hc 2 v2 rfl, hc 3 v3 rfl⟩
theorem Cells.at5 {enc : α → List Value} (h : Cells w A 5 enc l) {k : Nat} (hk : k < l.length) {v0 v1 v2 v3 v4 : Value} (he : enc l[k] = [v0, v1, v2, v3, v4]) :
    ∃ b off, A = some ⟨b, off, none⟩ ∧ b < w.heap.size ∧ w.cell? ⟨b, off + k * 5, none⟩ = some v0 ∧ w.cell? ⟨b, off + k * 5 + 1, none⟩ = some v1 ∧ w.cell? ⟨b, off + k * 5 + 2, none⟩ = some v2 ∧ w.cell? ⟨b, off + k * 5 + 3, none⟩ = some v3 ∧ w.cell? ⟨b, off + k * 5 + 4, none⟩ = some v4 := by
  obtain ⟨b, off, hA, hc⟩ := h.at hk
  rw [he] at hc
  have h0 := hc 0 v0 rfl
  exact ⟨b, off, hA, cell_lt h0, h0, hc 1 v1 rfl, hc 2 v2 rfl, hc 3 v3 rfl, hc 4 v4 rfl⟩

/-- A cut 's[lo:hi]'. -/
def cutA (A : Option Addr) (sz cap lo : Nat) : Option Addr := if cap = lo then A else A.map (·.add (lo * sz))
theorem map_add_zero (A : Option Addr) : A.map (fun x => x.add 0) = A := by cases A <;> rfl
theorem cutA_zero (A : Option Addr) (sz cap : Nat) : cutA A sz cap 0 = A := by
  unfold cutA; rw [Nat.zero_mul, map_add_zero]; split <;> rfl
theorem cutA_pos (A : Option Addr) {sz cap lo : Nat} (h : cap ≠ lo) : cutA A sz cap lo = A.map (fun x => x.add (lo * sz)) := by unfold cutA; rw [if_neg h]
theorem Cells.cut (h : Cells w A sz enc l) {cap lo hi : Nat} (h1 : lo ≤ hi) (h3 : hi ≤ cap) : Cells w (cutA A sz cap lo) sz enc ((l.drop lo).take (hi - lo)) := fun i x hi' => by
  rw [List.getElem?_take] at hi'
  split at hi'
  · rename_i hlt
    rw [List.getElem?_drop] at hi'
    obtain ⟨b, off, rfl, hc⟩ := h _ _ hi'
    unfold cutA
    rw [if_neg (by omega)]
    refine ⟨b, off + lo * sz, ?_, fun j y hj => ?_⟩
    · simp only [Option.map_some, Addr.add]
      split
      · rename_i h0; rw [h0]; rfl
      · rfl
    · have := hc j y hj
      rw [show off + lo * sz + (i * sz + j) = off + ((lo + i) * sz + j) by rw [Nat.add_mul]; omega]
      exact this
  · cases hi'
end

section
variable {P : Program}
theorem run_cut2 {t e : TypeId} {sz : Nat} (hu : P.underlying t = some (.slice e)) (hs : ∀ w, (sizeOf e).run P w = .ok sz w) (A : Option Addr) (n cap lo hi : Nat) (h1 : lo ≤ hi) (h2 : hi ≤ cap) (wx : World) :
    (Instr.slice t (.slice A n cap) (some (.int .i64 lo)) (some (.int .i64 hi)) none).run P wx = .ok (.slice (cutA A sz cap lo) (hi - lo) (cap - lo)) wx := by
  simp [Instr.slice, Instr.sliceBounds, Instr.sliceBound, asIntOf, run_underlying hu, hs, h1, h2, cutA]
theorem run_cut_hi {t e : TypeId} {sz : Nat} (hu : P.underlying t = some (.slice e)) (hs : ∀ w, (sizeOf e).run P w = .ok sz w) (A : Option Addr) (n cap hi : Nat) (h2 : hi ≤ cap) (wx : World) :
    (Instr.slice t (.slice A n cap) none (some (.int .i64 hi)) none).run P wx = .ok (.slice (cutA A sz cap 0) hi cap) wx := by
  simp [Instr.slice, Instr.sliceBounds, Instr.sliceBound, asIntOf, run_underlying hu, hs, h2, cutA]
theorem run_cut_lo {t e : TypeId} {sz : Nat} (hu : P.underlying t = some (.slice e)) (hs : ∀ w, (sizeOf e).run P w = .ok sz w) (A : Option Addr) (n cap lo : Nat) (h1 : lo ≤ n) (wx : World) :
    (Instr.slice t (.slice A n cap) (some (.int .i64 lo)) none none).run P wx = .ok (.slice (cutA A sz cap lo) (n - lo) (cap - lo)) wx := by
  simp [Instr.slice, Instr.sliceBounds, Instr.sliceBound, asIntOf, run_underlying hu, hs, h1, cutA]
end
theorem Cells.cut0 {α : Type} {w : World} {A : Option Addr} {sz : Nat} {enc : α → List Value} {l : List α} (h : Cells w A sz enc l) {cap hi : Nat} (h3 : hi ≤ cap) : Cells w (cutA A sz cap 0) sz enc (l.take hi) := by
  have := h.cut (cap := cap) (Nat.zero_le hi) h3
  simpa using this
end Go.Bs
namespace Go.Bs
open Go.RowKit Go.Pl
/-- What is asked of a predicate that a function is handed: at each element, in every world in which what lay in w lies unturned. -/
def PredB {α : Type} (P : Program) (g : Nat) (lb : Array Value) (encv : α → Value) (p : α → Bool) (w : World) (l : List α) : Prop :=
  ∀ (W : World) (x : α), x ∈ l → Below w.heap.size w W → Calls P g (#[encv x] ++ lb) W fun e w' => e = .returned (.bool (p x)) ∧ Below W.heap.size W w'
theorem PredB.later {α : Type} {P : Program} {g : Nat} {lb : Array Value} {encv : α → Value} {p : α → Bool} {w W : World} {l : List α} (h : PredB P g lb encv p w l) (hb : Below w.heap.size w W) : PredB P g lb encv p W l :=
  fun W' x hx hb' => h W' x hx (ext_trans hb hb')
def Ent (P : Program) (g : Nat) : Prop := ∀ args w, (callFunc g args).run P w = .ok (.enter g args) w
theorem Ent.of {P : Program} {g : Nat} (h : ∀ args w, (callFunc g args).run P w = .ok (.enter g args) w) : Ent P g := h
/-- The first index at which p holds, or -1. -/
def idxF {α : Type} (p : α → Bool) (l : List α) : Int := if l.any p then (l.findIdx p : Int) else -1
theorem idxF_hit {α : Type} {p : α → Bool} {l : List α} {k : Nat} (hk : k < l.length) (hp : p l[k] = true) (hn : ∀ x ∈ l.take k, p x = false) : idxF p l = k := by
  have h1 : l.any p = true := List.any_eq_true.2 ⟨_, List.getElem_mem hk, hp⟩
  have h2 : l.findIdx p = k := by
    rw [List.findIdx_eq hk]
    refine ⟨hp, fun j hj => ?_⟩
    have h3 : l[j]'(by omega) ∈ l.take k := List.mem_take_iff_getElem.2 ⟨j, by omega, rfl⟩
    simp [hn _ h3]
  simp [idxF, h1, h2]
theorem idxF_miss {α : Type} {p : α → Bool} {l : List α} (hn : ∀ x ∈ l, p x = false) : idxF p l = -1 := by
  have h1 : l.any p = false := List.any_eq_false.2 (fun x hx => by simp [hn x hx])
  simp [idxF, h1]
theorem idxF_nonneg {α : Type} (p : α → Bool) (l : List α) : decide (0 ≤ idxF p l) = l.any p := by
  unfold idxF
  cases l.any p <;> simp
theorem any_not {α : Type} (p : α → Bool) (l : List α) : (!l.any fun x => !p x) = l.all p := by
  induction l with
  | nil => rfl
  | cons x l ih => simp only [List.any_cons, List.all_cons, ← ih]; cases p x <;> simp
end Go.Bs
namespace Go.Bs
open Go.RowKit Go.Pl
/-- Block B is just these cells, none frozen. -/
def Blk (w : World) (B : Nat) (T : TypeId) (cs : List Value) : Prop := w.heap[B]? = some (.cells cs.toArray T (0, 0))
section
variable {w w' : World} {B T i : Nat} {cs : List Value}
theorem Blk.lt (h : Blk w B T cs) : B < w.heap.size := by
  rcases Nat.lt_or_ge B w.heap.size with h1 | h1
  · exact h1
  · unfold Blk at h; rw [Array.getElem?_eq_none h1] at h; cases h
theorem Blk.cell {v : Value} (h : Blk w B T cs) (hi : cs[i]? = some v) : w.cell? ⟨B, i, none⟩ = some v := by
  unfold Blk at h
  simp [World.cell?, h, hi]
theorem Blk.free (h : Blk w B T cs) (i : Nat) : w.frozen? ⟨B, i, none⟩ = false := by
  unfold Blk at h
  simp [World.frozen?, h]
theorem Blk.ext (h : Blk w B T cs) (hb : Below w.heap.size w w') : Blk w' B T cs := (hb.block B h.lt).trans h
theorem Blk.drew (h : Blk w B T cs) : Blk w.drew B T cs := h
theorem Blk.alloc (h : Blk w B T cs) (o : Obj) : Blk (w.alloc o) B T cs := h.ext (ext_alloc w o)
theorem Blk.new (w : World) (T : TypeId) (cs : List Value) : Blk (w.alloc (.cells cs.toArray T)) w.heap.size T cs := by
  show (w.heap.push _)[w.heap.size]? = _
  rw [Array.getElem?_push, if_pos rfl]
theorem Blk.other {p : Addr} (h : Blk w B T cs) (hp : B ≠ p.block) (u : Value) : Blk (w.setCell p u) B T cs := (Below.heap_setCell w p u B hp).trans h
theorem Blk.set (h : Blk w B T cs) (i : Nat) (u : Value) : Blk (w.setCell ⟨B, i, none⟩ u) B T (cs.set i u) := by
  unfold Blk at *
  simp [World.setCell, Array.getElem?_modify, h]
end
/-- A row of ints. -/
def IArr (w : World) (B T : Nat) (l : List Int) : Prop := Blk w B T (l.map (Value.int .i64))
section
variable {w w' : World} {B T i : Nat} {l : List Int}
theorem IArr.cell (h : IArr w B T l) {x : Int} (hi : l[i]? = some x) : w.cell? ⟨B, i, none⟩ = some (.int .i64 x) := Blk.cell h (by simp [hi])
theorem IArr.free (h : IArr w B T l) (i : Nat) : w.frozen? ⟨B, i, none⟩ = false := Blk.free h i
theorem IArr.ext (h : IArr w B T l) (hb : Below w.heap.size w w') : IArr w' B T l := Blk.ext h hb
theorem IArr.other {p : Addr} (h : IArr w B T l) (hp : B ≠ p.block) (u : Value) : IArr (w.setCell p u) B T l := Blk.other h hp u
theorem IArr.set (h : IArr w B T l) (i : Nat) (x : Int) : IArr (w.setCell ⟨B, i, none⟩ (.int .i64 x)) B T (l.set i x) := by
  have := Blk.set h i (.int .i64 x)
  unfold IArr
  rwa [List.map_set]
theorem IArr.cells (h : IArr w B T l) : Cells w (some ⟨B, 0, none⟩) 1 encI l := fun i x hi => ⟨B, 0, rfl, fun j y hj => by
  have hj0 : j = 0 := by
    rcases j with _ | j
    · rfl
    · simp [encI] at hj
  subst hj0
  simp only [encI, List.getElem?_cons_zero, Option.some.injEq] at hj
  subst hj
  simpa using h.cell hi⟩
end
/-- make([]int, x). -/
theorem run_mk {P : Program} {t e : TypeId} {i : TypeInfo} (ht : P.underlying t = some (.slice e)) (hi : P.info? e = some i) (hz : i.zero = some (.int .i64 0)) (hs : i.size = 1) (hby : i.bytes = 8) (x : Int) (h0 : 0 ≤ x) (h1 : x ≤ 1000000000000) (w : World) :
    (Instr.makeSlice t (.int .i64 x) (.int .i64 x)).run P w = .ok (.slice (some ⟨w.heap.size, 0, none⟩) x.toNat x.toNat) (w.alloc (.cells ((tab x.toNat fun _ => 0).map (Value.int .i64)).toArray e)) := by
  have hr := run_make (P := P) w t e i _ ht hi hz .i64 .i64 x x (by omega) (by omega) (by rw [hby]; omega) (by omega)
  rw [hr, hs]
  congr 3
  apply Array.ext
  · simp [size_madeCells, tab_len]
  · intro j h2 h3
    simp [madeCells, Value.cells, tab, Nat.mod_one]
end Go.Bs
namespace Go.Bs
theorem push2_0 (h : Array Obj) (a b : Obj) : ((h.push a).push b)[h.size]? = some a := by
  simp only [Array.getElem?_push, Array.size_push]; rw [if_neg (by omega), if_pos trivial]
theorem push2_1 (h : Array Obj) (a b : Obj) : ((h.push a).push b)[h.size + 1]? = some b := by
  simp only [Array.getElem?_push, Array.size_push]; rw [if_pos trivial]
theorem push3_0 (h : Array Obj) (a b c : Obj) : (((h.push a).push b).push c)[h.size]? = some a := by
  simp only [Array.getElem?_push, Array.size_push]; rw [if_neg (by omega), if_neg (by omega), if_pos trivial]
theorem push3_1 (h : Array Obj) (a b c : Obj) : (((h.push a).push b).push c)[h.size + 1]? = some b := by
  simp only [Array.getElem?_push, Array.size_push]; rw [if_neg (by omega), if_pos trivial]
theorem push3_2 (h : Array Obj) (a b c : Obj) : (((h.push a).push b).push c)[h.size + 1 + 1]? = some c := by
  simp only [Array.getElem?_push, Array.size_push]; rw [if_pos trivial]
end Go.Bs

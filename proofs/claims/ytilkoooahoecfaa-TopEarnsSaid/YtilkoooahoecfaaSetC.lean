/- Walk: a week for the program. -/
import Derived.Test.YtilkoooahoecfaaSetA
namespace Go.Dr
open Go.RowKit Go.Bs
theorem Bel.then_below {M : List Nat} {a b c : World} (h : Bel M a b) (k : Below a.heap.size b c) : Bel M a c :=
  ⟨k.os.trans h.os, k.tape.trans h.tape, k.output.trans h.output, Nat.le_trans h.size k.size, fun i hi hm => (k.block i hi).trans (h.block i hi hm)⟩
theorem Bel.put {M : List Nat} {a b : World} (h : Bel M a b) {p : Addr} (hp : p.block ∈ M) (u : Value) : Bel M a (b.setCell p u) := h.trans (Bel.store hp u)
theorem Bel.old {M : List Nat} {a b : World} {n : Nat} (h : Bel M a b) (hn : n ≤ a.heap.size) (hM : ∀ k ∈ M, n ≤ k) : Below n a b :=
  ⟨h.os, h.tape, h.output, h.size, fun k hk => h.block k (Nat.lt_of_lt_of_le hk hn) (fun hm => by have := hM k hm; omega)⟩
theorem Bel.blk {M : List Nat} {a b : World} (h : Bel M a b) {B T : Nat} {cs : List Value} (hB : Blk a B T cs) (hm : B ∉ M) : Blk b B T cs := (h.block B hB.lt hm).trans hB
end Go.Dr
namespace Go.Proofs.Ytilkoooahoecfaa
open Go.RowKit Go.Bs Go.Pu Go.Pl Go.Sort

theorem et33 : ElemT Try.prog 43 55 4 32 := ElemT.mk (z := .agg #[.int .i64 0, .int .i64 0, .int .i64 0, .int .i64 0]) Try.underlying43 (by kernel_rfl) rfl
theorem et34 : ElemT Try.prog 42 41 3 24 := ElemT.mk (z := .agg #[.int .i64 0, .int .i64 0, .int .i64 0]) Try.underlying42 (by kernel_rfl) rfl
theorem cells_bel {α : Type} {w w' : World} {M : List Nat} {A : Option Addr} {sz : Nat} {enc : α → List Value} {l : List α} (h : Cells w A sz enc l) (hb : Dr.Bel M w w') (hA : ∀ k, A.map (·.block) = some k → k ∉ M) : Cells w' A sz enc l := by
  refine h.keep (fun p hp hq => ?_)
  rw [World.cell?_of_block (hb.block p.block hp (hA _ hq))]
theorem fresh_bel {α : Type} {a b c : World} {M : List Nat} {sz : Nat} {enc : α → List Value} {v : Value} {l : List α} (h : FreshL a b sz enc v l) (hb : Dr.Bel M b c) (hM : ∀ k ∈ M, k < a.heap.size) : FreshL a c sz enc v l := by
  obtain ⟨A, q, hv, h1, h2, h3, h4⟩ := h
  exact ⟨A, q, hv, h1, h2, cells_bel h3 hb (fun k hk hm => by have := hM k hm; have := (h4 k hk).1; omega), fun k hk => ⟨(h4 k hk).1, Nat.lt_of_lt_of_le (h4 k hk).2 hb.size⟩⟩
/-- of a new row of one element -/
theorem new_cell {w : World} {T : Nat} {cs : List Value} : ∀ j u, cs[j]? = some u → (w.alloc (.cells cs.toArray T)).cell? ⟨w.heap.size, j, none⟩ = some u := fun _ _ h => (Blk.new w T cs).cell h

end Go.Proofs.Ytilkoooahoecfaa

/- Walk: the day and the week of the law that all else leans on. -/
import Derived.Test.YtnjdlhhgnamigaaLedR
namespace Go.Pu
def dayL : List Act := [⟨1, 1, 0, 0, 50, 0⟩, ⟨2, 0, 0, 0, 30, 0⟩, ⟨4, 0, 0, 7, 120, 120⟩, ⟨5, 0, 0, 9, 20, 0⟩, ⟨6, 0, 0, 0, 0, 0⟩, ⟨7, 0, 0, 0, 400, 0⟩]
def weekW : Wk := ⟨[⟨1000, 3, 2, 100⟩, ⟨301, 1, 3, 50⟩], 90, [⟨1, 500, 300⟩, ⟨0, 800, 0⟩]⟩
end Go.Pu
namespace Go.Proofs.Ytnjdlhhgnamigaa
open Go.RowKit Go.Bs Go.Pu Go.Pl Go.Sort
theorem blk_cells {α : Type} {w : World} {b T sz : Nat} {enc : α → List Value} {l : List α} (hen : ∀ x, (enc x).length = sz) (h : Blk w b T (l.flatMap enc)) : Cells w (some ⟨b, 0, none⟩) sz enc l := fun i x hi => ⟨b, 0, rfl, fun j y hj => by
  rw [Nat.zero_add]
  exact h.cell (flatMap_get hen l i j x y hi hj)⟩
theorem day_any (w : World) : Calls Try.prog 57 #[] w fun e w' => ∃ g, e = .returned (.slice (some ⟨g, 0, none⟩) 6 6) ∧ Cells w' (some ⟨g, 0, none⟩) 6 Act.enc dayL ∧ Below w.heap.size w w' := by
  go_enter Try.func57, Try.ntmps57
  go_wp2
  go_ret
  exact ⟨_, rfl, blk_cells act_len (Blk.new w 86 (dayL.flatMap Act.enc)), ext_alloc _ _⟩
theorem week_any (w : World) : Calls Try.prog 58 #[] w fun e w' => ∃ g1 g2, e = .returned (wkV (some ⟨g1, 0, none⟩) 2 2 weekW.premium (some ⟨g2, 0, none⟩) 2 2) ∧ Cells w' (some ⟨g1, 0, none⟩) 4 Cty.enc weekW.ctys ∧ Cells w' (some ⟨g2, 0, none⟩) 3 Ctr.enc weekW.ctrs ∧ Below w.heap.size w w' := by
  go_enter Try.func58, Try.ntmps58
  go_wp2
  have hR := ((Blk.new w 36 [.slice (some ⟨w.heap.size + 1, 0, none⟩) 2 2, .int .i64 90, .slice (some ⟨w.heap.size + 1 + 1, 0, none⟩) 2 2]).alloc (.cells (weekW.ctys.flatMap Cty.enc).toArray 58)).alloc (.cells (weekW.ctrs.flatMap Ctr.enc).toArray 125)
  have h1 := (Blk.new (w.alloc (.cells #[.slice (some ⟨w.heap.size + 1, 0, none⟩) 2 2, .int .i64 90, .slice (some ⟨w.heap.size + 1 + 1, 0, none⟩) 2 2] 36)) 58 (weekW.ctys.flatMap Cty.enc)).alloc (.cells (weekW.ctrs.flatMap Ctr.enc).toArray 125)
  have h2 := Blk.new ((w.alloc (.cells #[.slice (some ⟨w.heap.size + 1, 0, none⟩) 2 2, .int .i64 90, .slice (some ⟨w.heap.size + 1 + 1, 0, none⟩) 2 2] 36)).alloc (.cells (weekW.ctys.flatMap Cty.enc).toArray 58)) 125 (weekW.ctrs.flatMap Ctr.enc)
  simp only [World.size_alloc] at h1 h2
  have hb : Below w.heap.size w (((w.alloc (.cells #[.slice (some ⟨w.heap.size + 1, 0, none⟩) 2 2, .int .i64 90, .slice (some ⟨w.heap.size + 1 + 1, 0, none⟩) 2 2] 36)).alloc (.cells (weekW.ctys.flatMap Cty.enc).toArray 58)).alloc (.cells (weekW.ctrs.flatMap Ctr.enc).toArray 125)) := (((Below.refl _ _).alloc (Nat.le_refl _) _).alloc (by simp) _).alloc (by simp; omega) _
  change bodyPost Try.prog Try.f58 _ Exit.ret _ (((w.alloc (.cells #[.slice (some ⟨w.heap.size + 1, 0, none⟩) 2 2, .int .i64 90, .slice (some ⟨w.heap.size + 1 + 1, 0, none⟩) 2 2] 36)).alloc (.cells (weekW.ctys.flatMap Cty.enc).toArray 58)).alloc (.cells (weekW.ctrs.flatMap Ctr.enc).toArray 125))
  generalize (((w.alloc (.cells #[.slice (some ⟨w.heap.size + 1, 0, none⟩) 2 2, .int .i64 90, .slice (some ⟨w.heap.size + 1 + 1, 0, none⟩) 2 2] 36)).alloc (.cells (weekW.ctys.flatMap Cty.enc).toArray 58)).alloc (.cells (weekW.ctrs.flatMap Ctr.enc).toArray 125)) = W at *
  have o0 : W.cell? ⟨w.heap.size, 0, none⟩ = _ := hR.cell (i := 0) rfl
  have o1 : W.cell? ⟨w.heap.size, 1, none⟩ = _ := hR.cell (i := 1) rfl
  have o2 : W.cell? ⟨w.heap.size, 2, none⟩ = _ := hR.cell (i := 2) rfl
  refine bodyPost_ret (v := wkV (some ⟨w.heap.size + 1, 0, none⟩) 2 2 weekW.premium (some ⟨w.heap.size + 1 + 1, 0, none⟩) 2 2) (by simp [results, Try.results58, go_sem, o0, o1, o2, wkV, weekW]) rfl ?_
  exact ⟨_, _, rfl, blk_cells cty_len h1, blk_cells ctr_len h2, hb⟩
end Go.Proofs.Ytnjdlhhgnamigaa

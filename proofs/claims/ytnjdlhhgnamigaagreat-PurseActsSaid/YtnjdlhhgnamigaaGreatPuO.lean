/- Openers: an act. -/
import Derived.Test.YtnjdlhhgnamigaaGreatPuN
namespace Go.Proofs.YtnjdlhhgnamigaaGreat
open Go.ChangeShapes Go.WideShapes Go.ChangeAt Go.RowKit Go.Joins Go.Bs Go.Pu
section
variable {H : Type} {enc : TypeId × Value → H} {w : World} {base : Nat} {spare : Nat → Bool} {held : Bool} {b0 : Nat} {v : Value} {d : DataW H} {p : List MemPlace}
set_option maxRecDepth 100000 in
theorem act_arg (hv : Value.okWide Tryz.prog w .any b0 48 v) (h : DataW.Trod enc Tryz.prog w base spare held 48 v d p) : ∃ a : Go.Pu.Act, v = Go.Pu.Act.val a := by
  obtain ⟨cs, rfl, hsz⟩ := okWide_struct Tryz.underlying48 hv
  obtain ⟨fuel, hf⟩ := h
  obtain ⟨x, hx⟩ := act_in hf
  refine ⟨x.1, ?_⟩
  obtain ⟨cl⟩ := cs
  simp only [Value.cells] at hx
  subst hx
  rfl
end
end Go.Proofs.YtnjdlhhgnamigaaGreat

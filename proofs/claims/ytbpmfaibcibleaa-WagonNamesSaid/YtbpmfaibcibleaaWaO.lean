/- Wagon: arguments opened to data. -/
import Derived.DeepKeys4
import Derived.Maps.Keyed
import Derived.Laws.StructEq
import Derived.Deep.DeepCutAuto
import Derived.Carry
import Derived.Sort.CutIn
import Derived.WalkLawsBesides
import Derived.Maps.RangeWalk
import Derived.WalkKit
import Derived.ProofKit
import Derived.OpenShut
import Derived.ChangeOld
import Derived.Below
import Derived.Lib.SmallJoins
import Derived.Deep.Slices
import Derived.Deep.Fields
import Derived.ChangeSame
import Derived.Test.YtbpmfaibcibleaaWaW
import Derived.Test.YtbpmfaibcibleaaRows
namespace Go.Proofs.Ytbpmfaibcibleaa
open Go.RowKit Go.Bs Go.Wg Go.Pl Go.Sort Go.ChangeShapes Go.WideShapes Go.ChangeAt Go.Joins
theorem ownK : ownKnob Try.prog.godebug = none := by kernel_rfl
theorem laidK : laidOutB Try.prog = true := by kernel_rfl
section
variable {H : Type} {enc : TypeId × Value → H} {w : World} {base : Nat} {spare : Nat → Bool} {held : Bool} {b0 : Nat} {v : Value} {d : DataW H} {p : List MemPlace}
set_option maxRecDepth 100000 in
theorem int1_in {t : TypeId} (ht : Try.prog.underlying t = some (.int .i64)) {n : Nat} {cs : List Value} {y : DataW H × List MemPlace} (h : DataW.trod enc Try.prog w base spare held n t cs = some y) : ∃ k, cs = [.int .i64 k] := by
  obtain ⟨k, h, _⟩ := DataW.trod_int ht h
  exact ⟨k, h⟩
set_option maxRecDepth 100000 in
theorem u8_arg (hv : Value.okWide Try.prog w .any b0 5 v) (h : DataW.Trod enc Try.prog w base spare held 5 v d p) : ∃ x : Int, v = .int .u8 x ∧ 0 ≤ x ∧ x ≤ 255 := by
  obtain ⟨n, rfl⟩ := okWide_int Try.underlying5 hv
  obtain ⟨fuel, hf⟩ := h
  obtain ⟨n', e, -, hwf⟩ := DataW.trod_int Try.underlying5 hf
  simp [Value.cells] at e
  subst e
  simp only [Lit.wf, Bool.and_eq_true, decide_eq_true_eq] at hwf
  have h1 : IntKind.u8.min = 0 := rfl
  have h2 : IntKind.u8.max = 255 := rfl
  rw [h1, h2] at hwf
  exact ⟨n, rfl, hwf⟩
set_option maxRecDepth 100000 in
theorem ru_arg (hv : Value.okWide Try.prog w .any b0 23 v) (h : DataW.Trod enc Try.prog w base spare held 23 v d p) : ∃ a b c d : Int, v = .agg #[.int .i64 a, .int .i64 b, .int .i64 c, .int .i64 d] := by
  obtain ⟨cs, rfl, hsz⟩ := okWide_struct Try.underlying23 hv
  obtain ⟨fuel, hf⟩ := h
  obtain ⟨xs, m, _, _, hlen, hxl, hg⟩ := DataW.trod_struct Try.underlying23 hf
  have hlen2 : cs.toList.length = 4 := by rw [Array.length_toList]; exact hsz.trans (by kernel_rfl)
  have h3 : Try.prog.cellsOf 3 = 1 := by kernel_rfl
  obtain ⟨cl⟩ := cs
  simp only [Value.cells] at hg
  match cl, hlen2 with
  | [c0, c1, c2, c3], _ =>
    match xs, hxl with
    | [y0, y1, y2, y3], _ =>
      have a0 : DataW.trod enc Try.prog w base spare held m 3 (([c0, c1, c2, c3].drop 0).take (Try.prog.cellsOf 3)) = some y0 := hg 0 _ rfl
      rw [h3] at a0
      have a0 : DataW.trod enc Try.prog w base spare held m 3 [c0] = some y0 := a0
      have a1 : DataW.trod enc Try.prog w base spare held m 3 (([c0, c1, c2, c3].drop 1).take (Try.prog.cellsOf 3)) = some y1 := hg 1 _ rfl
      rw [h3] at a1
      have a1 : DataW.trod enc Try.prog w base spare held m 3 [c1] = some y1 := a1
      have a2 : DataW.trod enc Try.prog w base spare held m 3 (([c0, c1, c2, c3].drop 2).take (Try.prog.cellsOf 3)) = some y2 := hg 2 _ rfl
      rw [h3] at a2
      have a2 : DataW.trod enc Try.prog w base spare held m 3 [c2] = some y2 := a2
      have a3 : DataW.trod enc Try.prog w base spare held m 3 (([c0, c1, c2, c3].drop 3).take (Try.prog.cellsOf 3)) = some y3 := hg 3 _ rfl
      rw [h3] at a3
      have a3 : DataW.trod enc Try.prog w base spare held m 3 [c3] = some y3 := a3
      obtain ⟨k0, e0⟩ := int1_in Try.underlying3 a0
      obtain ⟨k1, e1⟩ := int1_in Try.underlying3 a1
      obtain ⟨k2, e2⟩ := int1_in Try.underlying3 a2
      obtain ⟨k3, e3⟩ := int1_in Try.underlying3 a3
      simp at e0
      subst e0
      simp at e1
      subst e1
      simp at e2
      subst e2
      simp at e3
      subst e3
      exact ⟨k0, k1, k2, k3, rfl⟩
end
end Go.Proofs.Ytbpmfaibcibleaa

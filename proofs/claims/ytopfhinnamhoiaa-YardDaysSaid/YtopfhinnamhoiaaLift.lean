/- Arguments opened to data. -/
import Derived.WalkKit
import Derived.ProofKit
import Derived.OpenShut
import Derived.ChangeOld
import Derived.Below
import Derived.Carry
import Derived.Lib.SmallJoins
import Derived.Test.YtopfhinnamhoiaaRows
import Derived.Test.YtopfhinnamhoiaaBase
namespace Go.Proofs.Ytopfhinnamhoiaa
open Go.ChangeShapes Go.WideShapes Go.ChangeAt Go.RowKit Go.Bs

theorem ownK : ownKnob Try.prog.godebug = none := by kernel_rfl
theorem laidK : laidOutB Try.prog = true := by kernel_rfl
/-- A slice of ints that came in. -/
theorem ints_in {H : Type} {enc : TypeId × Value → H} {w : World} {base fuel : Nat} {spare : Nat → Bool} {held : Bool} {v : Value} {x : DataW H × List MemPlace} (h : DataW.trod enc Try.prog w base spare held fuel 24 [v] = some x) :
    ∃ A n c l, v = .slice A n c ∧ l.length = n ∧ n ≤ c ∧ c ≤ maxLen ∧ Cells w A 1 encI l := by
  rcases open_ints Try.underlying24 Try.underlying3 (by kernel_rfl) h with ⟨hcs, _⟩ | ⟨a, l, c, zs, hcs, _, hl, hm, hz, _, hcell, hwz⟩
  · simp only [List.cons.injEq, and_true] at hcs
    exact ⟨none, 0, 0, [], hcs, rfl, Nat.le_refl _, by unfold maxLen; omega, Cells.nil⟩
  · simp only [List.cons.injEq, and_true] at hcs
    have hlz : l ≤ zs.length := by rw [hz]; split <;> omega
    refine ⟨some a, l, c, zs.take l, hcs, by simp; omega, hl, hm, fun i y hi => ?_⟩
    have hil : i < l := by
      have := (List.getElem?_eq_some_iff.1 hi).1
      simp at this; omega
    have hc := hcell i (by omega)
    obtain ⟨b, off, spot⟩ := a
    have hspot : spot = none := by
      simpa [Addr.add] using World.cell?_spot (hcell 0 (by omega))
    subst hspot
    refine ⟨b, off, rfl, fun j u hj => ?_⟩
    rcases j with _ | j
    · simp only [encI, List.getElem?_cons_zero, Option.some.injEq] at hj
      subst hj
      have hy : zs.getD i 0 = y := by
        rw [List.getElem?_take] at hi
        rw [if_pos hil] at hi
        simp [hi]
      rw [hy] at hc
      have h2 : (⟨b, off, none⟩ : Addr).add i = ⟨b, off + i, none⟩ := by
        unfold Addr.add
        split
        · rename_i h0; subst h0; rfl
        · rfl
      rw [h2] at hc
      simpa using hc
    · simp [encI] at hj
end Go.Proofs.Ytopfhinnamhoiaa

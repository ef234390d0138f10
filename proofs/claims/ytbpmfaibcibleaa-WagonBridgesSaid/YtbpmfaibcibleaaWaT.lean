/- Wagon: rows of ints as an argument. -/
import Derived.Test.YtbpmfaibcibleaaWaR
import Derived.Test.YtbpmfaibcibleaaWaD
namespace Go.Proofs.Ytbpmfaibcibleaa
open Go.ChangeShapes Go.WideShapes Go.ChangeAt Go.RowKit Go.Joins Go.Bs Go.Deep Go.Wg
section
variable {H : Type} {enc : TypeId × Value → H} {w : World} {base : Nat} {spare : Nat → Bool} {held : Bool} {b0 : Nat} {v : Value} {d : DataW H} {p : List MemPlace}
set_option maxRecDepth 100000 in
theorem row_in {n : Nat} {cs : List Value} {y : DataW H × List MemPlace} (h : DataW.trod enc Try.prog w base spare held n 35 cs = some y) : ∃ x : RwV, cs = RwV.enc x ∧ Cells w x.A 1 Go.Bs.encI x.r ∧ x.r.length ≤ x.c := by
  have h2 := h
  rcases DataW.trod_slice Try.underlying35 h with ⟨hcs, _⟩ | ⟨a, len, cap, elems, rest, m, hf, hcs, hx, _, hl, hm, hel, -, -, -⟩
  · subst hcs
    obtain ⟨A, n', c, l, e, h3, h4, h5, h6⟩ := ints_in h2
    injection e with e1 e2 e3
    refine ⟨⟨l, none, 0⟩, ?_, ?_, ?_⟩
    · unfold RwV.enc; rw [h3, ← e2]
    · rw [← e1] at h6; exact h6
    · show l.length ≤ _; omega
  · subst hcs
    obtain ⟨A, n', c, l, e, h3, h4, h5, h6⟩ := ints_in h2
    injection e with e1 e2 e3
    refine ⟨⟨l, some a, cap⟩, ?_, ?_, ?_⟩
    · unfold RwV.enc; rw [h3, ← e2]
    · rw [← e1] at h6; exact h6
    · show l.length ≤ cap; omega
set_option maxRecDepth 100000 in
theorem rows_arg (hv : Value.okWide Try.prog w .any b0 41 v) (h : DataW.Trod enc Try.prog w base spare held 41 v d p) :
    ∃ A n c rs, v = .slice A n c ∧ rs.length = n ∧ n ≤ c ∧ n ≤ 9223372036854775807 ∧ RwM w A rs := by
  obtain ⟨A, n, c, rfl⟩ := okWide_slice Try.underlying41 hv
  obtain ⟨fuel, hf⟩ := h
  haveI : Inhabited {x : RwV // Cells w x.A 1 Go.Bs.encI x.r ∧ x.r.length ≤ x.c} := ⟨⟨⟨[], none, 0⟩, Cells.nil, by decide⟩⟩
  obtain ⟨A', n', c', l, e, hl, hlc, hcm, hc⟩ := rows_in (sz := 1) Try.underlying41 (by kernel_rfl) (by decide) (fun x : {x : RwV // Cells w x.A 1 Go.Bs.encI x.r ∧ x.r.length ≤ x.c} => RwV.enc x.1) (fun _ _ _ h => by
    obtain ⟨x, h1, h2, h3⟩ := row_in h
    exact ⟨⟨x, h2, h3⟩, h1⟩) hf
  cases e
  refine ⟨A, n, c, l.map (·.1), rfl, by rw [List.length_map, hl], hlc, by unfold maxLen at hcm; omega, fun i x hx => ?_, fun x hx => ?_, fun x hx => ?_⟩
  · rw [List.getElem?_map] at hx
    obtain ⟨z, hz, rfl⟩ := Option.map_eq_some_iff.1 hx
    exact hc i z hz
  · obtain ⟨z, _, rfl⟩ := List.mem_map.1 hx
    exact z.2.1
  · obtain ⟨z, _, rfl⟩ := List.mem_map.1 hx
    exact z.2.2
end
end Go.Proofs.Ytbpmfaibcibleaa

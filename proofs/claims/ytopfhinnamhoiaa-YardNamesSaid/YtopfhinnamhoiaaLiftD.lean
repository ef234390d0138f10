/- Arguments opened to data: yards, roads, engines. -/
import Derived.Test.YtopfhinnamhoiaaLiftC
namespace Go.Proofs.Ytopfhinnamhoiaa
open Go.ChangeShapes Go.WideShapes Go.ChangeAt Go.RowKit Go.Joins Go.Bs Go.Deep Go.Yd

section
variable {H : Type} {enc : TypeId × Value → H} {w : World} {base : Nat} {spare : Nat → Bool} {held : Bool} {b0 : Nat} {v : Value} {d : DataW H} {p : List MemPlace}
set_option maxRecDepth 100000 in
theorem pair_in {n : Nat} {cs : List Value} {y : DataW H × List MemPlace} (h : DataW.trod enc Try.prog w base spare held n 64 cs = some y) : ∃ x : Int × Int, cs = encP x := by
  obtain ⟨xs, m, _, _, hlen, hxl, hg⟩ := DataW.trod_array Try.underlying64 h
  have hlen2 : cs.length = 2 := hlen.trans (by kernel_rfl)
  have h3 : Try.prog.cellsOf 3 = 1 := by kernel_rfl
  match cs, hlen2 with
  | [c0, c1], _ =>
    match xs, hxl with
    | [y0, y1], _ =>
      have a0 : DataW.trod enc Try.prog w base spare held m 3 (([c0, c1].drop (0 * Try.prog.cellsOf 3)).take (Try.prog.cellsOf 3)) = some y0 := hg 0 (by omega)
      have a1 : DataW.trod enc Try.prog w base spare held m 3 (([c0, c1].drop (1 * Try.prog.cellsOf 3)).take (Try.prog.cellsOf 3)) = some y1 := hg 1 (by omega)
      rw [h3] at a0 a1
      obtain ⟨k0, e0⟩ := int1_in Try.underlying3 a0
      obtain ⟨k1, e1⟩ := int1_in Try.underlying3 a1
      simp at e0 e1
      subst e0
      subst e1
      exact ⟨(k0, k1), rfl⟩
set_option maxRecDepth 100000 in
theorem yard_in (hv : Value.okWide Try.prog w .any b0 57 v) (h : DataW.Trod enc Try.prog w base spare held 57 v d p) :
    ∃ (y : Yrd) (A B C : Option Addr) (n m o a b c : Nat), v = .agg #[.slice A n a, .slice B m b, .slice C o c] ∧ y.boxes.length = n ∧ y.needs.length = m ∧ y.foes.length = o ∧ n ≤ 9223372036854775807 ∧ m ≤ 9223372036854775807 ∧ o ≤ 9223372036854775807 ∧ YdAt w y A B C := by
  obtain ⟨u0, u1, u2, y0, y1, y2, n0, rfl, -, -, hf0, hf1, hf2⟩ := open_agg3 Try.underlying57 (by kernel_rfl) (by kernel_rfl) hv h
  obtain ⟨A, n, a, l1, rfl, hl1, hq1, hm1, hc1⟩ := ints_in hf0
  obtain ⟨B, m, b, l2, rfl, hl2, hq2, hm2, hc2⟩ := ints_in hf1
  obtain ⟨C, o, c, l3, rfl, hl3, hlc3, hm3, hc3⟩ := rows_in (sz := 2) Try.underlying55 (by kernel_rfl) (by decide) encP (fun _ _ _ h => pair_in h) hf2
  unfold maxLen at hm1 hm2 hm3
  exact ⟨⟨l1, l2, l3⟩, A, B, C, n, m, o, a, b, c, rfl, hl1, hl2, hl3, by omega, by omega, by omega, ⟨hc1, hc2, hc3⟩⟩
end
end Go.Proofs.Ytopfhinnamhoiaa

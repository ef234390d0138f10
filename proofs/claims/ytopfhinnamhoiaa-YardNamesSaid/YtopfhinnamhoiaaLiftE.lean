/- Arguments opened to data: roads, engines. -/
import Derived.Test.YtopfhinnamhoiaaLiftD
namespace Go.Proofs.Ytopfhinnamhoiaa
open Go.ChangeShapes Go.WideShapes Go.ChangeAt Go.RowKit Go.Joins Go.Bs Go.Deep Go.Yd

section
variable {H : Type} {enc : TypeId × Value → H} {w : World} {base : Nat} {spare : Nat → Bool} {held : Bool} {b0 : Nat} {v : Value} {d : DataW H} {p : List MemPlace}
set_option maxRecDepth 100000 in
theorem mkt_in {n : Nat} {cs : List Value} {y : DataW H × List MemPlace} (h : DataW.trod enc Try.prog w base spare held n 95 cs = some y) : ∃ x : Mkt, cs = Mkt.enc x := by
  obtain ⟨xs, m, _, _, hlen, hxl, hg⟩ := DataW.trod_struct Try.underlying95 h
  have hlen2 : cs.length = 4 := hlen.trans (by kernel_rfl)
  have h3 : Try.prog.cellsOf 3 = 1 := by kernel_rfl
  have h4 : Try.prog.cellsOf 4 = 1 := by kernel_rfl
  match cs, hlen2 with
  | [c0, c1, c2, c3], _ =>
    match xs, hxl with
    | [y0, y1, y2, y3], _ =>
      have a0 : DataW.trod enc Try.prog w base spare held m 3 (([c0, c1, c2, c3].drop 0).take (Try.prog.cellsOf 3)) = some y0 := hg 0 _ rfl
      have a1 : DataW.trod enc Try.prog w base spare held m 3 (([c0, c1, c2, c3].drop 1).take (Try.prog.cellsOf 3)) = some y1 := hg 1 _ rfl
      have a2 : DataW.trod enc Try.prog w base spare held m 3 (([c0, c1, c2, c3].drop 2).take (Try.prog.cellsOf 3)) = some y2 := hg 2 _ rfl
      have a3 : DataW.trod enc Try.prog w base spare held m 4 (([c0, c1, c2, c3].drop 3).take (Try.prog.cellsOf 4)) = some y3 := hg 3 _ rfl
      rw [h3] at a0 a1 a2
      rw [h4] at a3
      obtain ⟨k0, e0⟩ := int1_in Try.underlying3 a0
      obtain ⟨k1, e1⟩ := int1_in Try.underlying3 a1
      obtain ⟨k2, e2⟩ := int1_in Try.underlying3 a2
      obtain ⟨k3, e3, _⟩ := DataW.trod_bool Try.underlying4 a3
      simp at e0 e1 e2 e3
      subst e0
      subst e1
      subst e2
      subst e3
      exact ⟨⟨k0, k1, k2, k3⟩, rfl⟩
set_option maxRecDepth 100000 in
theorem eng_in {n : Nat} {cs : List Value} {y : DataW H × List MemPlace} (h : DataW.trod enc Try.prog w base spare held n 117 cs = some y) : ∃ x : Eng, cs = Eng.enc x := by
  obtain ⟨xs, m, _, _, hlen, hxl, hg⟩ := DataW.trod_struct Try.underlying117 h
  have hlen2 : cs.length = 3 := hlen.trans (by kernel_rfl)
  have h3 : Try.prog.cellsOf 3 = 1 := by kernel_rfl
  match cs, hlen2 with
  | [c0, c1, c2], _ =>
    match xs, hxl with
    | [y0, y1, y2], _ =>
      have a0 : DataW.trod enc Try.prog w base spare held m 3 (([c0, c1, c2].drop 0).take (Try.prog.cellsOf 3)) = some y0 := hg 0 _ rfl
      have a1 : DataW.trod enc Try.prog w base spare held m 3 (([c0, c1, c2].drop 1).take (Try.prog.cellsOf 3)) = some y1 := hg 1 _ rfl
      have a2 : DataW.trod enc Try.prog w base spare held m 3 (([c0, c1, c2].drop 2).take (Try.prog.cellsOf 3)) = some y2 := hg 2 _ rfl
      rw [h3] at a0 a1 a2
      obtain ⟨k0, e0⟩ := int1_in Try.underlying3 a0
      obtain ⟨k1, e1⟩ := int1_in Try.underlying3 a1
      obtain ⟨k2, e2⟩ := int1_in Try.underlying3 a2
      simp at e0 e1 e2
      subst e0
      subst e1
      subst e2
      exact ⟨⟨k0, k1, k2⟩, rfl⟩
set_option maxRecDepth 100000 in
theorem road_in (hv : Value.okWide Try.prog w .any b0 87 v) (h : DataW.Trod enc Try.prog w base spare held 87 v d p) :
    ∃ A n c days keep, v = .agg #[.slice A n c, .int .i64 keep] ∧ days.length = n ∧ n ≤ c ∧ n ≤ 9223372036854775807 ∧ Cells w A 4 Mkt.enc days := by
  obtain ⟨u0, u1, y0, y1, n0, rfl, -, -, hf0, hf1⟩ := open_agg2 Try.underlying87 (by kernel_rfl) (by kernel_rfl) hv h
  obtain ⟨A, n, c, days, rfl, hl, hlc, hcm, hc⟩ := rows_in (sz := 4) Try.underlying85 (by kernel_rfl) (by decide) Mkt.enc (fun _ _ _ h => mkt_in h) hf0
  obtain ⟨keep, hu1, -, -⟩ := DataW.trod_int Try.underlying3 hf1
  simp only [List.cons.injEq, and_true] at hu1
  subst hu1
  exact ⟨A, n, c, days, keep, rfl, hl, hlc, by unfold maxLen at hcm; omega, hc⟩
set_option maxRecDepth 100000 in
theorem engines_in (hv : Value.okWide Try.prog w .any b0 105 v) (h : DataW.Trod enc Try.prog w base spare held 105 v d p) :
    ∃ A n c l, v = .slice A n c ∧ l.length = n ∧ n ≤ c ∧ n ≤ 9223372036854775807 ∧ Cells w A 3 Eng.enc l := by
  obtain ⟨A, n, c, rfl⟩ := okWide_slice Try.underlying105 hv
  obtain ⟨fuel, hf⟩ := h
  obtain ⟨A', n', c', l, e, hl, hlc, hcm, hc⟩ := rows_in (sz := 3) Try.underlying105 (by kernel_rfl) (by decide) Eng.enc (fun _ _ _ h => eng_in h) hf
  cases e
  exact ⟨A, n, c, l, rfl, hl, hlc, by unfold maxLen at hcm; omega, hc⟩
end
end Go.Proofs.Ytopfhinnamhoiaa

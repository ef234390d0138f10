/- Arguments opened to data: grids, words, small numbers. -/
import Derived.Test.YtopfhinnamhoiaaYardW
namespace Go.Proofs.Ytopfhinnamhoiaa
open Go.ChangeShapes Go.WideShapes Go.ChangeAt Go.RowKit Go.Joins Go.Bs Go.Deep Go.Yd

section
variable {H : Type} {enc : TypeId × Value → H} {w : World} {base : Nat} {spare : Nat → Bool} {held : Bool} {b0 : Nat} {v : Value} {d : DataW H} {p : List MemPlace}
set_option maxRecDepth 100000 in
theorem grid_in (hv : Value.okWide Try.prog w .any b0 37 v) (h : DataW.Trod enc Try.prog w base spare held 37 v d p) :
    ∃ A n c nodes lim, v = .agg #[.slice A n c, .int .i64 lim] ∧ nodes.length = n ∧ n ≤ c ∧ n ≤ 9223372036854775807 ∧ Cells w A 5 Nd.enc nodes := by
  obtain ⟨u0, u1, y0, y1, n0, rfl, -, -, hf0, hf1⟩ := open_agg2 Try.underlying37 (by kernel_rfl) (by kernel_rfl) hv h
  obtain ⟨A, n, c, nodes, rfl, hl, hlc, hcm, hc⟩ := nodes_in hf0
  obtain ⟨lim, hu1, -, -⟩ := DataW.trod_int Try.underlying3 hf1
  simp only [List.cons.injEq, and_true] at hu1
  subst hu1
  exact ⟨A, n, c, nodes, lim, rfl, hl, hlc, by unfold maxLen at hcm; omega, hc⟩
set_option maxRecDepth 100000 in
theorem ints_arg (hv : Value.okWide Try.prog w .any b0 24 v) (h : DataW.Trod enc Try.prog w base spare held 24 v d p) :
    ∃ A n c l, v = .slice A n c ∧ l.length = n ∧ n ≤ c ∧ n ≤ 9223372036854775807 ∧ Cells w A 1 encI l := by
  obtain ⟨A, n, c, rfl⟩ := okWide_slice Try.underlying24 hv
  obtain ⟨fuel, hf⟩ := h
  obtain ⟨A', n', c', l, e, hl, hlc, hcm, hc⟩ := ints_in hf
  cases e
  exact ⟨A, n, c, l, rfl, hl, hlc, by unfold maxLen at hcm; omega, hc⟩
set_option maxRecDepth 100000 in
theorem u8_arg (hv : Value.okWide Try.prog w .any b0 5 v) (h : DataW.Trod enc Try.prog w base spare held 5 v d p) : ∃ x : Int, v = .int .u8 x ∧ 0 ≤ x ∧ x ≤ 255 := by
  obtain ⟨n, rfl⟩ := okWide_int Try.underlying5 hv
  obtain ⟨fuel, hf⟩ := h
  obtain ⟨n', e, -, hwf⟩ := DataW.trod_int Try.underlying5 hf
  simp [Value.cells] at e
  subst e
  simp only [Lit.wf, Bool.and_eq_true, decide_eq_true_eq] at hwf
  have h1 : IntKind.u8.min = 0 := rfl
  have h2 : IntKind.u8.max = 255 := rfl
  rw [h1, h2] at hwf
  exact ⟨n, rfl, hwf⟩
/-- 16-bit words that came in. -/
def encU (x : Int) : List Value := [.int .u16 x]
theorem u16_in {n : Nat} {cs : List Value} {y : DataW H × List MemPlace} (h : DataW.trod enc Try.prog w base spare held n 72 cs = some y) : ∃ x : {x : Int // 0 ≤ x ∧ x ≤ 65535}, cs = encU x.1 := by
  obtain ⟨k, h, -, hwf⟩ := DataW.trod_int Try.underlying72 h
  simp only [Lit.wf, Bool.and_eq_true, decide_eq_true_eq] at hwf
  have h1 : IntKind.u16.min = 0 := rfl
  have h2 : IntKind.u16.max = 65535 := rfl
  rw [h1, h2] at hwf
  exact ⟨⟨k, hwf⟩, h⟩
set_option maxRecDepth 100000 in
theorem words_arg (hv : Value.okWide Try.prog w .any b0 66 v) (h : DataW.Trod enc Try.prog w base spare held 66 v d p) :
    ∃ A n c l, v = .slice A n c ∧ l.length = n ∧ n ≤ c ∧ n ≤ 9223372036854775807 ∧ (∀ x ∈ l, (0 : Int) ≤ x ∧ x ≤ 65535) ∧ Cells w A 1 encU l := by
  obtain ⟨A, n, c, rfl⟩ := okWide_slice Try.underlying66 hv
  obtain ⟨fuel, hf⟩ := h
  haveI : Inhabited {x : Int // 0 ≤ x ∧ x ≤ 65535} := ⟨⟨0, by omega⟩⟩
  obtain ⟨A', n', c', l, e, hl, hlc, hcm, hc⟩ := rows_in (sz := 1) Try.underlying66 (by kernel_rfl) (by decide) (fun x : {x : Int // 0 ≤ x ∧ x ≤ 65535} => encU x.1) (fun _ _ _ h => u16_in h) hf
  cases e
  refine ⟨A, n, c, l.map (·.1), rfl, by simpa using hl, hlc, by unfold maxLen at hcm; omega, fun x hx => ?_, fun i x hx => ?_⟩
  · obtain ⟨y, _, rfl⟩ := List.mem_map.1 hx
    exact y.2
  · rw [List.getElem?_map] at hx
    obtain ⟨y, hy, rfl⟩ := Option.map_eq_some_iff.1 hx
    exact hc i y hy
end
end Go.Proofs.Ytopfhinnamhoiaa

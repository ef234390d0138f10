/- Arguments opened to data: rows of ints, and how long they can be. -/
import Derived.SizedLaws
import Derived.Test.YtcnidhcdkbfpcaaGreatPrlG
import Derived.Test.YtcnidhcdkbfpcaaGreatPgI
namespace Go.Proofs.YtcnidhcdkbfpcaaGreat
open Go.ChangeShapes Go.WideShapes Go.ChangeAt Go.RowKit Go.Joins Go.Bs Go.Deep Go.Pg Go.Pl
theorem mem_weightsAll {H : Type} {P : Program} {e : TypeId} : ∀ {l : List (DataW H)} {d : DataW H} {k : Nat}, d ∈ l → k ∈ d.weights P e → k ∈ DataW.weightsAll P e l
  | x :: l, d, k, hd, hk => by
    simp only [DataW.weightsAll, List.mem_append]
    rcases List.mem_cons.1 hd with rfl | hd
    · exact .inl hk
    · exact .inr (mem_weightsAll hd hk)
/-- A slice that came in, whose elements' cells are known by the type and the weights. -/
theorem rows_in2 {H α : Type} [Inhabited α] {enc : TypeId × Value → H} {w : World} {base fuel sz R : Nat} {spare : Nat → Bool} {held : Bool} {v : Value} {x : DataW H × List MemPlace} {t e : TypeId} (ht : Tryz.prog.underlying t = some (.slice e)) (hC : Tryz.prog.cellsOf e = sz) (hsz : 0 < sz) (ec : α → List Value)
    (hin : ∀ n cs y, DataW.trod enc Tryz.prog w base spare held n e cs = some y → (∀ k ∈ y.1.weights Tryz.prog e, k ≤ R) → ∃ x : α, cs = ec x)
    (h : DataW.trod enc Tryz.prog w base spare held fuel t [v] = some x) (hw : ∀ k ∈ x.1.weights Tryz.prog t, k ≤ R) :
    ∃ A n c l, v = .slice A n c ∧ l.length = n ∧ n ≤ c ∧ c ≤ maxLen ∧ Cells w A sz ec l := by
  rcases DataW.trod_slice ht h with ⟨hcs, _⟩ | ⟨a, len, cap, elems, rest, n, hf, hcs, hx, _, hl, hm, hel, hi, _, _⟩
  · simp only [List.cons.injEq, and_true] at hcs
    exact ⟨none, 0, 0, [], hcs, rfl, Nat.le_refl _, by unfold maxLen; omega, Cells.nil⟩
  · simp only [List.cons.injEq, and_true] at hcs
    rw [hC] at hi
    have key : ∀ i, i < len → ∃ x : α, w.cells? base (a.add (i * sz)) sz = some (ec x) := fun i h' => by
      have h0 := hi i h'
      rw [List.getElem?_eq_getElem (by omega)] at h0
      obtain ⟨cs', h1, h2⟩ := Option.bind_eq_some_iff.1 h0
      obtain ⟨x', rfl⟩ := hin _ _ _ h2 (fun k hk => hw k (by
        rw [hx]
        simp only [DataW.weights, ht, List.mem_cons, List.mem_append]
        exact .inr (.inl (mem_weightsAll (List.mem_map_of_mem (List.getElem_mem _)) hk))))
      exact ⟨x', h1⟩
    obtain ⟨f, hf⟩ : ∃ f : Nat → α, ∀ i, i < len → w.cells? base (a.add (i * sz)) sz = some (ec (f i)) :=
      ⟨fun i => if h' : i < len then Classical.choose (key i h') else default, fun i h' => by simp only [dif_pos h']; exact Classical.choose_spec (key i h')⟩
    refine ⟨some a, len, cap, (List.range len).map f, hcs, by simp, hl, hm, fun i y hy => ?_⟩
    have hil : i < len := by
      have := (List.getElem?_eq_some_iff.1 hy).1
      simpa using this
    have hy2 : y = f i := by simpa [hil] using hy.symm
    subst hy2
    obtain ⟨_, hcl, hat⟩ := World.cells?_some (hf i hil)
    obtain ⟨b, off, spot⟩ := a
    obtain ⟨_, hcl0, hat0⟩ := World.cells?_some (hf 0 (by omega))
    have hz := hat0 0 hsz
    rw [List.getElem?_eq_getElem (show 0 < (ec (f 0)).length by omega)] at hz
    have hspot : spot = none := by
      simpa [Addr.add] using World.cell?_spot hz
    subst hspot
    refine ⟨b, off, rfl, fun j u hj => ?_⟩
    have hjl : j < sz := by
      have := (List.getElem?_eq_some_iff.1 hj).1
      omega
    have h1 := hat j hjl
    rw [hj, add_add] at h1
    have h2 : (⟨b, off, none⟩ : Addr).add (i * sz + j) = ⟨b, off + (i * sz + j), none⟩ := by
      unfold Addr.add
      split
      · rename_i h0; rw [h0]; rfl
      · rfl
    rw [h2] at h1
    exact h1
section
variable {H : Type} {enc : TypeId × Value → H} {w : World} {base : Nat} {spare : Nat → Bool} {held : Bool} {b0 : Nat} {v : Value} {d : DataW H} {p : List MemPlace}
set_option maxRecDepth 100000 in
theorem row_in {n : Nat} {cs : List Value} {y : DataW H × List MemPlace} (h : DataW.trod enc Tryz.prog w base spare held n 23 cs = some y) : ∃ x : RwV, cs = RwV.enc x ∧ Cells w x.A 1 encI x.r ∧ x.r.length ≤ 9223372036854775807 ∧ ∀ R, (∀ k ∈ y.1.weights Tryz.prog 23, k ≤ R) → x.r.length * 8 ≤ R := by
  have h2 := h
  rcases DataW.trod_slice Tryz.underlying23 h with ⟨hcs, _⟩ | ⟨a, len, cap, elems, rest, m, hf, hcs, hx, _, hl, hm, hel, -, -, -⟩
  · subst hcs
    obtain ⟨A, n', c, l, e, h3, h4, h5, h6⟩ := ints_in h2
    injection e with e1 e2 e3
    refine ⟨⟨l, none, 0⟩, ?_, ?_, ?_, ?_⟩
    · unfold RwV.enc; rw [h3, ← e2]
    · rw [← e1] at h6; exact h6
    · show l.length ≤ _; omega
    · intro R _; show l.length * 8 ≤ R; omega
  · subst hcs
    obtain ⟨A, n', c, l, e, h3, h4, h5, h6⟩ := ints_in h2
    injection e with e1 e2 e3
    refine ⟨⟨l, some a, cap⟩, ?_, ?_, ?_, ?_⟩
    · unfold RwV.enc; rw [h3, ← e2]
    · rw [← e1] at h6; exact h6
    · show l.length ≤ _; unfold maxLen at hm; omega
    · intro R hR
      have := hR ((elems.length + rest.length) * Tryz.prog.bytesOf 3) (by
        rw [hx]
        simp only [DataW.weights, Tryz.underlying23, List.length_map, List.mem_cons, true_or])
      rw [show Tryz.prog.bytesOf 3 = 8 from by kernel_rfl] at this
      show l.length * 8 ≤ R
      have h9 : l.length = elems.length := by omega
      rw [h9]
      omega
theorem tab_of {A : Option Addr} {P : RwV → Prop} (l : List {x : RwV // Cells w x.A 1 encI x.r ∧ P x}) (h : Cells w A 1 (fun x : {x : RwV // Cells w x.A 1 encI x.r ∧ P x} => RwV.enc x.1) l) : TabA w A (l.map fun x => x.1.r) := by
  refine ⟨l.map (·.1), by rw [List.map_map]; rfl, fun i x hx => ?_, fun x hx => ?_⟩
  · rw [List.getElem?_map] at hx
    obtain ⟨z, hz, rfl⟩ := Option.map_eq_some_iff.1 hx
    exact h i z hz
  · obtain ⟨z, _, rfl⟩ := List.mem_map.1 hx
    exact z.2.1
set_option maxRecDepth 100000 in
theorem rows_arg (hv : Value.okWide Tryz.prog w .any b0 27 v) (h : DataW.Trod enc Tryz.prog w base spare held 27 v d p) :
    ∃ A n c l, v = .slice A n c ∧ l.length = n ∧ n ≤ 9223372036854775807 ∧ TabA w A l ∧ (∀ r ∈ l, r.length ≤ 9223372036854775807) ∧ ∀ R, (∀ k ∈ d.weights Tryz.prog 27, k ≤ R) → ∃ l', v = .slice A l'.length c ∧ TabA w A l' ∧ ∀ r ∈ l', r.length * 8 ≤ R := by
  obtain ⟨A, n, c, rfl⟩ := okWide_slice Tryz.underlying27 hv
  obtain ⟨fuel, hf⟩ := h
  haveI : Inhabited {x : RwV // Cells w x.A 1 encI x.r ∧ x.r.length ≤ 9223372036854775807} := ⟨⟨⟨[], none, 0⟩, Cells.nil, by decide⟩⟩
  obtain ⟨A', n', c', l, e, hl, hlc, hcm, hc⟩ := rows_in (sz := 1) Tryz.underlying27 (by kernel_rfl) (by decide) (fun x : {x : RwV // Cells w x.A 1 encI x.r ∧ x.r.length ≤ 9223372036854775807} => RwV.enc x.1) (fun _ _ _ h => by
    obtain ⟨x, h1, h2, h3, -⟩ := row_in h
    exact ⟨⟨x, h2, h3⟩, h1⟩) hf
  cases e
  refine ⟨A, n, c, l.map fun x => x.1.r, rfl, by rw [List.length_map, hl], by unfold maxLen at hcm; omega, tab_of l hc, fun r hr => ?_, fun R hR => ?_⟩
  · obtain ⟨z, _, rfl⟩ := List.mem_map.1 hr
    exact z.2.2
  · haveI : Inhabited {x : RwV // Cells w x.A 1 encI x.r ∧ x.r.length * 8 ≤ R} := ⟨⟨⟨[], none, 0⟩, Cells.nil, by simp⟩⟩
    obtain ⟨A', n', c', l', e, hl', hlc', hcm', hc'⟩ := rows_in2 (R := R) (sz := 1) Tryz.underlying27 (by kernel_rfl) (by decide) (fun x : {x : RwV // Cells w x.A 1 encI x.r ∧ x.r.length * 8 ≤ R} => RwV.enc x.1) (fun _ _ _ h hw => by
      obtain ⟨x, h1, h2, -, h3⟩ := row_in h
      exact ⟨⟨x, h2, h3 R hw⟩, h1⟩) hf hR
    cases e
    refine ⟨l'.map fun x => x.1.r, by rw [List.length_map, hl'], tab_of l' hc', fun r hr => ?_⟩
    obtain ⟨z, _, rfl⟩ := List.mem_map.1 hr
    exact z.2.2
end
end Go.Proofs.YtcnidhcdkbfpcaaGreat

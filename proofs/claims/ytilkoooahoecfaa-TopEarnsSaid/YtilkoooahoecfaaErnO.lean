/- Arguments opened to data: a tour, a season. -/
import Derived.DeepKeys4
import Derived.Maps.Keyed
import Derived.Laws.StructEq
import Derived.Deep.DeepCutAuto
import Derived.Carry
import Derived.Sort.CutIn
import Derived.WalkLawsBesides
import Derived.Maps.RangeWalk
import Derived.WalkKit
import Derived.ProofKit
import Derived.OpenShut
import Derived.ChangeOld
import Derived.Below
import Derived.Lib.SmallJoins
import Derived.Deep.Slices
import Derived.Deep.Fields
import Derived.ChangeSame
import Derived.Test.YtilkoooahoecfaaErnP
import Derived.Test.YtilkoooahoecfaaProg
import Derived.Test.YtilkoooahoecfaaRows
namespace Go.Proofs.Ytilkoooahoecfaa.Er
open Go.ChangeShapes Go.WideShapes Go.ChangeAt Go.RowKit Go.Joins Go.Bs Go.Deep Go.Er
theorem ownK : ownKnob Try.prog.godebug = none := by kernel_rfl
theorem laidK : laidOutB Try.prog = true := by kernel_rfl
/-- A slice that came in, whose elements' cells are known by the type. -/
theorem rows_in {H α : Type} [Inhabited α] {enc : TypeId × Value → H} {w : World} {base fuel sz : Nat} {spare : Nat → Bool} {held : Bool} {v : Value} {x : DataW H × List MemPlace} {t e : TypeId} (ht : Try.prog.underlying t = some (.slice e)) (hC : Try.prog.cellsOf e = sz) (hsz : 0 < sz) (ec : α → List Value)
    (hin : ∀ n cs y, DataW.trod enc Try.prog w base spare held n e cs = some y → ∃ x : α, cs = ec x)
    (h : DataW.trod enc Try.prog w base spare held fuel t [v] = some x) :
    ∃ A n c l, v = .slice A n c ∧ l.length = n ∧ n ≤ c ∧ c ≤ maxLen ∧ Cells w A sz ec l := by
  rcases open_slice ht h with ⟨hcs, _⟩ | ⟨a, len, cap, m, n, D, Pl, hcs, _, hl, hm, hmm, _, hi⟩
  · simp only [List.cons.injEq, and_true] at hcs
    exact ⟨none, 0, 0, [], hcs, rfl, Nat.le_refl _, by unfold maxLen; omega, Cells.nil⟩
  · simp only [List.cons.injEq, and_true] at hcs
    have hlm : len ≤ m := by rw [hmm]; split <;> omega
    rw [hC] at hi
    have key : ∀ i, i < len → ∃ x : α, w.cells? base (a.add (i * sz)) sz = some (ec x) := fun i h' => by
      obtain ⟨cs', h1, h2⟩ := hi i (by omega)
      obtain ⟨x, rfl⟩ := hin _ _ _ h2
      exact ⟨x, h1⟩
    obtain ⟨f, hf⟩ : ∃ f : Nat → α, ∀ i, i < len → w.cells? base (a.add (i * sz)) sz = some (ec (f i)) :=
      ⟨fun i => if h' : i < len then Classical.choose (key i h') else default, fun i h' => by simp only [dif_pos h']; exact Classical.choose_spec (key i h')⟩
    refine ⟨some a, len, cap, (List.range len).map f, hcs, by simp, hl, hm, fun i y hy => ?_⟩
    have hil : i < len := by
      have := (List.getElem?_eq_some_iff.1 hy).1
      simpa using this
    have hy2 : y = f i := by simpa [hil] using hy.symm
    subst hy2
    obtain ⟨_, hcl, hat⟩ := World.cells?_some (hf i hil)
    obtain ⟨b, off, spot⟩ := a
    obtain ⟨_, hcl0, hat0⟩ := World.cells?_some (hf 0 (by omega))
    have hz := hat0 0 hsz
    rw [List.getElem?_eq_getElem (show 0 < (ec (f 0)).length by omega)] at hz
    have hspot : spot = none := by
      simpa [Addr.add] using World.cell?_spot hz
    subst hspot
    refine ⟨b, off, rfl, fun j u hj => ?_⟩
    have hjl : j < sz := by
      have := (List.getElem?_eq_some_iff.1 hj).1
      omega
    have h1 := hat j hjl
    rw [hj, add_add] at h1
    have h2 : (⟨b, off, none⟩ : Addr).add (i * sz + j) = ⟨b, off + (i * sz + j), none⟩ := by
      unfold Addr.add
      split
      · rename_i h0; rw [h0]; rfl
      · rfl
    rw [h2] at h1
    exact h1

section
variable {H : Type} {enc : TypeId × Value → H} {w : World} {base : Nat} {spare : Nat → Bool} {held : Bool}
theorem int1_in {t : TypeId} (ht : Try.prog.underlying t = some (.int .i64)) {n : Nat} {cs : List Value} {y : DataW H × List MemPlace} (h : DataW.trod enc Try.prog w base spare held n t cs = some y) : ∃ k, cs = [.int .i64 k] := by
  obtain ⟨k, h, _⟩ := DataW.trod_int ht h
  exact ⟨k, h⟩
set_option maxRecDepth 100000 in
theorem rng_in {n : Nat} {cs : List Value} {y : DataW H × List MemPlace} (h : DataW.trod enc Try.prog w base spare held n 51 cs = some y) : ∃ x : Int × Int, cs = encR x := by
  obtain ⟨xs, m, _, _, hlen, hxl, hg⟩ := DataW.trod_struct Try.underlying51 h
  have hlen2 : cs.length = 2 := hlen.trans (by kernel_rfl)
  have h3 : Try.prog.cellsOf 3 = 1 := by kernel_rfl
  match cs, hlen2 with
  | [c0, c1], _ =>
    match xs, hxl with
    | [y0, y1], _ =>
      have a0 : DataW.trod enc Try.prog w base spare held m 3 (([c0, c1].drop 0).take (Try.prog.cellsOf 3)) = some y0 := hg 0 _ rfl
      rw [h3] at a0
      have a0 : DataW.trod enc Try.prog w base spare held m 3 [c0] = some y0 := a0
      have a1 : DataW.trod enc Try.prog w base spare held m 3 (([c0, c1].drop 1).take (Try.prog.cellsOf 3)) = some y1 := hg 1 _ rfl
      rw [h3] at a1
      have a1 : DataW.trod enc Try.prog w base spare held m 3 [c1] = some y1 := a1
      obtain ⟨k0, e0⟩ := int1_in Try.underlying3 a0
      simp at e0
      subst e0
      obtain ⟨k1, e1⟩ := int1_in Try.underlying3 a1
      simp at e1
      subst e1
      exact ⟨(k0, k1), rfl⟩
set_option maxRecDepth 100000 in
theorem leg_in {n : Nat} {cs : List Value} {y : DataW H × List MemPlace} (h : DataW.trod enc Try.prog w base spare held n 57 cs = some y) : ∃ x : Int × Int, cs = encR x := by
  obtain ⟨xs, m, _, _, hlen, hxl, hg⟩ := DataW.trod_struct Try.underlying57 h
  have hlen2 : cs.length = 2 := hlen.trans (by kernel_rfl)
  have h3 : Try.prog.cellsOf 3 = 1 := by kernel_rfl
  match cs, hlen2 with
  | [c0, c1], _ =>
    match xs, hxl with
    | [y0, y1], _ =>
      have a0 : DataW.trod enc Try.prog w base spare held m 3 (([c0, c1].drop 0).take (Try.prog.cellsOf 3)) = some y0 := hg 0 _ rfl
      rw [h3] at a0
      have a0 : DataW.trod enc Try.prog w base spare held m 3 [c0] = some y0 := a0
      have a1 : DataW.trod enc Try.prog w base spare held m 3 (([c0, c1].drop 1).take (Try.prog.cellsOf 3)) = some y1 := hg 1 _ rfl
      rw [h3] at a1
      have a1 : DataW.trod enc Try.prog w base spare held m 3 [c1] = some y1 := a1
      obtain ⟨k0, e0⟩ := int1_in Try.underlying3 a0
      simp at e0
      subst e0
      obtain ⟨k1, e1⟩ := int1_in Try.underlying3 a1
      simp at e1
      subst e1
      exact ⟨(k0, k1), rfl⟩
set_option maxRecDepth 100000 in
theorem stop_in {n : Nat} {cs : List Value} {y : DataW H × List MemPlace} (h : DataW.trod enc Try.prog w base spare held n 47 cs = some y) : ∃ x : StE, cs = StE.enc x := by
  obtain ⟨xs, m, _, _, hlen, hxl, hg⟩ := DataW.trod_struct Try.underlying47 h
  have hlen2 : cs.length = 3 := hlen.trans (by kernel_rfl)
  have h3 : Try.prog.cellsOf 3 = 1 := by kernel_rfl
  match cs, hlen2 with
  | [c0, c1, c2], _ =>
    match xs, hxl with
    | [y0, y1, y2], _ =>
      have a0 : DataW.trod enc Try.prog w base spare held m 3 (([c0, c1, c2].drop 0).take (Try.prog.cellsOf 3)) = some y0 := hg 0 _ rfl
      rw [h3] at a0
      have a0 : DataW.trod enc Try.prog w base spare held m 3 [c0] = some y0 := a0
      have a1 : DataW.trod enc Try.prog w base spare held m 3 (([c0, c1, c2].drop 1).take (Try.prog.cellsOf 3)) = some y1 := hg 1 _ rfl
      rw [h3] at a1
      have a1 : DataW.trod enc Try.prog w base spare held m 3 [c1] = some y1 := a1
      have a2 : DataW.trod enc Try.prog w base spare held m 3 (([c0, c1, c2].drop 2).take (Try.prog.cellsOf 3)) = some y2 := hg 2 _ rfl
      rw [h3] at a2
      have a2 : DataW.trod enc Try.prog w base spare held m 3 [c2] = some y2 := a2
      obtain ⟨k0, e0⟩ := int1_in Try.underlying3 a0
      simp at e0
      subst e0
      obtain ⟨k1, e1⟩ := int1_in Try.underlying3 a1
      simp at e1
      subst e1
      obtain ⟨k2, e2⟩ := int1_in Try.underlying3 a2
      simp at e2
      subst e2
      exact ⟨⟨k0, k1, k2⟩, rfl⟩
set_option maxRecDepth 100000 in
theorem town_in {n : Nat} {cs : List Value} {y : DataW H × List MemPlace} (h : DataW.trod enc Try.prog w base spare held n 53 cs = some y) : ∃ x : {x : TwV // TwM w x}, cs = TwV.enc x.1 := by
  obtain ⟨xs, m, _, _, hlen, hxl, hg⟩ := DataW.trod_struct Try.underlying53 h
  have hlen2 : cs.length = 9 := hlen.trans (by kernel_rfl)
  have h3 : Try.prog.cellsOf 3 = 1 := by kernel_rfl
  have h49 : Try.prog.cellsOf 49 = 1 := by kernel_rfl
  have h51 : Try.prog.cellsOf 51 = 2 := by kernel_rfl
  match cs, hlen2 with
  | [c0, c1, c2, c3, c4, c5, c6, c7, c8], _ =>
    match xs, hxl with
    | [y0, y1, y2, y3, y4, y5, y6, y7], _ =>
      have a0 : DataW.trod enc Try.prog w base spare held m 49 (([c0, c1, c2, c3, c4, c5, c6, c7, c8].drop 0).take (Try.prog.cellsOf 49)) = some y0 := hg 0 _ rfl
      rw [h49] at a0
      have a0 : DataW.trod enc Try.prog w base spare held m 49 [c0] = some y0 := a0
      have a1 : DataW.trod enc Try.prog w base spare held m 51 (([c0, c1, c2, c3, c4, c5, c6, c7, c8].drop 1).take (Try.prog.cellsOf 51)) = some y1 := hg 1 _ rfl
      rw [h51] at a1
      have a1 : DataW.trod enc Try.prog w base spare held m 51 [c1, c2] = some y1 := a1
      have a2 : DataW.trod enc Try.prog w base spare held m 3 (([c0, c1, c2, c3, c4, c5, c6, c7, c8].drop 3).take (Try.prog.cellsOf 3)) = some y2 := hg 2 _ rfl
      rw [h3] at a2
      have a2 : DataW.trod enc Try.prog w base spare held m 3 [c3] = some y2 := a2
      have a3 : DataW.trod enc Try.prog w base spare held m 3 (([c0, c1, c2, c3, c4, c5, c6, c7, c8].drop 4).take (Try.prog.cellsOf 3)) = some y3 := hg 3 _ rfl
      rw [h3] at a3
      have a3 : DataW.trod enc Try.prog w base spare held m 3 [c4] = some y3 := a3
      have a4 : DataW.trod enc Try.prog w base spare held m 3 (([c0, c1, c2, c3, c4, c5, c6, c7, c8].drop 5).take (Try.prog.cellsOf 3)) = some y4 := hg 4 _ rfl
      rw [h3] at a4
      have a4 : DataW.trod enc Try.prog w base spare held m 3 [c5] = some y4 := a4
      have a5 : DataW.trod enc Try.prog w base spare held m 49 (([c0, c1, c2, c3, c4, c5, c6, c7, c8].drop 6).take (Try.prog.cellsOf 49)) = some y5 := hg 5 _ rfl
      rw [h49] at a5
      have a5 : DataW.trod enc Try.prog w base spare held m 49 [c6] = some y5 := a5
      have a6 : DataW.trod enc Try.prog w base spare held m 3 (([c0, c1, c2, c3, c4, c5, c6, c7, c8].drop 7).take (Try.prog.cellsOf 3)) = some y6 := hg 6 _ rfl
      rw [h3] at a6
      have a6 : DataW.trod enc Try.prog w base spare held m 3 [c7] = some y6 := a6
      have a7 : DataW.trod enc Try.prog w base spare held m 3 (([c0, c1, c2, c3, c4, c5, c6, c7, c8].drop 8).take (Try.prog.cellsOf 3)) = some y7 := hg 7 _ rfl
      rw [h3] at a7
      have a7 : DataW.trod enc Try.prog w base spare held m 3 [c8] = some y7 := a7
      obtain ⟨A0, n0, d0, l0, e0, hl0, hq0, hm0, hc0⟩ := rows_in (sz := 2) Try.underlying49 (by kernel_rfl) (by decide) encR (fun _ _ _ h => rng_in h) a0
      subst e0
      obtain ⟨⟨k1, k1'⟩, e1⟩ := rng_in a1
      simp [encR] at e1
      obtain ⟨rfl, rfl⟩ := e1
      obtain ⟨k2, e2⟩ := int1_in Try.underlying3 a2
      simp at e2
      subst e2
      obtain ⟨k3, e3⟩ := int1_in Try.underlying3 a3
      simp at e3
      subst e3
      obtain ⟨k4, e4⟩ := int1_in Try.underlying3 a4
      simp at e4
      subst e4
      obtain ⟨A5, n5, d5, l5, e5, hl5, hq5, hm5, hc5⟩ := rows_in (sz := 2) Try.underlying49 (by kernel_rfl) (by decide) encR (fun _ _ _ h => rng_in h) a5
      subst e5
      obtain ⟨k6, e6⟩ := int1_in Try.underlying3 a6
      simp at e6
      subst e6
      obtain ⟨k7, e7⟩ := int1_in Try.underlying3 a7
      simp at e7
      subst e7
      unfold maxLen at hm0 hm5
      subst hl0 hl5
      exact ⟨⟨⟨⟨l0, k1, k1', k2, k3, k4, l5, k6, k7⟩, A0, d0, A5, d5⟩, ⟨hc0, hc5, by simp only; omega, by simp only; omega⟩⟩, rfl⟩
set_option maxRecDepth 100000 in
theorem legs_in {n : Nat} {cs : List Value} {y : DataW H × List MemPlace} (h : DataW.trod enc Try.prog w base spare held n 58 cs = some y) : ∃ x : {x : LgV // Cells w x.A 2 encR x.l ∧ x.l.length ≤ 9223372036854775807}, cs = LgV.enc x.1 := by
  have h2 := h
  rcases DataW.trod_slice Try.underlying58 h with ⟨hcs, _⟩ | ⟨a, len, cap, elems, rest, m, hf, hcs, hx, _, hl, hm, hel, -, -, -⟩
  · subst hcs
    exact ⟨⟨⟨[], none, 0⟩, Cells.nil, by decide⟩, rfl⟩
  · subst hcs
    obtain ⟨A, n', c, l, e, h3, h4, h5, h6⟩ := rows_in (sz := 2) Try.underlying58 (by kernel_rfl) (by decide) encR (fun _ _ _ h => leg_in h) h2
    injection e with e1 e2 e3
    unfold maxLen at h5
    refine ⟨⟨⟨l, some a, cap⟩, ?_, ?_⟩, ?_⟩
    · rw [← e1] at h6; exact h6
    · show l.length ≤ _; omega
    · show [Value.slice (some a) len cap] = [Value.slice (some a) l.length cap]
      rw [h3, ← e2]
end
section
variable {H : Type} {enc : TypeId × Value → H} {w : World} {base : Nat} {spare : Nat → Bool} {held : Bool} {b0 : Nat} {v : Value} {d : DataW H} {p : List MemPlace}
set_option maxRecDepth 100000 in
theorem stops_arg (hv : Value.okWide Try.prog w .any b0 26 v) (h : DataW.Trod enc Try.prog w base spare held 26 v d p) :
    ∃ A n c l, v = .slice A n c ∧ l.length = n ∧ n ≤ 9223372036854775807 ∧ Cells w A 3 StE.enc l := by
  obtain ⟨A, n, c, rfl⟩ := okWide_slice Try.underlying26 hv
  obtain ⟨fuel, hf⟩ := h
  obtain ⟨A', n', c', l, e, hl, hlc, hcm, hc⟩ := rows_in (sz := 3) Try.underlying26 (by kernel_rfl) (by decide) StE.enc (fun _ _ _ h => stop_in h) hf
  cases e
  exact ⟨A, n, c, l, rfl, hl, by unfold maxLen at hcm; omega, hc⟩
set_option maxRecDepth 100000 in
theorem tour_arg (hv : Value.okWide Try.prog w .any b0 25 v) (h : DataW.Trod enc Try.prog w base spare held 25 v d p) : ∃ t : TrV, v = t.val ∧ TrM w t := by
  obtain ⟨cs, rfl, hsz⟩ := okWide_struct Try.underlying25 hv
  obtain ⟨fuel, hf⟩ := h
  obtain ⟨xs, m, _, _, hlen, hxl, hg⟩ := DataW.trod_struct Try.underlying25 hf
  have hlen2 : cs.toList.length = 5 := by rw [Array.length_toList]; exact hsz.trans (by kernel_rfl)
  have h3 : Try.prog.cellsOf 3 = 1 := by kernel_rfl
  have h22 : Try.prog.cellsOf 22 = 1 := by kernel_rfl
  have h23 : Try.prog.cellsOf 23 = 1 := by kernel_rfl
  obtain ⟨cl⟩ := cs
  simp only [Value.cells] at hg
  match cl, hlen2 with
  | [c0, c1, c2, c3, c4], _ =>
    match xs, hxl with
    | [y0, y1, y2, y3, y4], _ =>
      have a0 : DataW.trod enc Try.prog w base spare held m 3 (([c0, c1, c2, c3, c4].drop 0).take (Try.prog.cellsOf 3)) = some y0 := hg 0 _ rfl
      rw [h3] at a0
      have a0 : DataW.trod enc Try.prog w base spare held m 3 [c0] = some y0 := a0
      have a1 : DataW.trod enc Try.prog w base spare held m 3 (([c0, c1, c2, c3, c4].drop 1).take (Try.prog.cellsOf 3)) = some y1 := hg 1 _ rfl
      rw [h3] at a1
      have a1 : DataW.trod enc Try.prog w base spare held m 3 [c1] = some y1 := a1
      have a2 : DataW.trod enc Try.prog w base spare held m 3 (([c0, c1, c2, c3, c4].drop 2).take (Try.prog.cellsOf 3)) = some y2 := hg 2 _ rfl
      rw [h3] at a2
      have a2 : DataW.trod enc Try.prog w base spare held m 3 [c2] = some y2 := a2
      have a3 : DataW.trod enc Try.prog w base spare held m 22 (([c0, c1, c2, c3, c4].drop 3).take (Try.prog.cellsOf 22)) = some y3 := hg 3 _ rfl
      rw [h22] at a3
      have a3 : DataW.trod enc Try.prog w base spare held m 22 [c3] = some y3 := a3
      have a4 : DataW.trod enc Try.prog w base spare held m 23 (([c0, c1, c2, c3, c4].drop 4).take (Try.prog.cellsOf 23)) = some y4 := hg 4 _ rfl
      rw [h23] at a4
      have a4 : DataW.trod enc Try.prog w base spare held m 23 [c4] = some y4 := a4
      obtain ⟨k0, e0⟩ := int1_in Try.underlying3 a0
      simp at e0
      subst e0
      obtain ⟨k1, e1⟩ := int1_in Try.underlying3 a1
      simp at e1
      subst e1
      obtain ⟨k2, e2⟩ := int1_in Try.underlying3 a2
      simp at e2
      subst e2
      haveI : Inhabited {x : TwV // TwM w x} := ⟨⟨⟨⟨[], 0, 0, 0, 0, 0, [], 0, 0⟩, none, 0, none, 0⟩, ⟨Cells.nil, Cells.nil, by decide, by decide⟩⟩⟩
      haveI : Inhabited {x : LgV // Cells w x.A 2 encR x.l ∧ x.l.length ≤ 9223372036854775807} := ⟨⟨⟨[], none, 0⟩, Cells.nil, by decide⟩⟩
      obtain ⟨A3, n3, d3, l3, rfl, hl3, hq3, hm3, hc3⟩ := rows_in (sz := 9) Try.underlying22 (by kernel_rfl) (by decide) (fun x : {x : TwV // TwM w x} => TwV.enc x.1) (fun _ _ _ h => town_in h) a3
      obtain ⟨A4, n4, d4, l4, rfl, hl4, hq4, hm4, hc4⟩ := rows_in (sz := 1) Try.underlying23 (by kernel_rfl) (by decide) (fun x : {x : LgV // Cells w x.A 2 encR x.l ∧ x.l.length ≤ 9223372036854775807} => LgV.enc x.1) (fun _ _ _ h => legs_in h) a4
      unfold maxLen at hm3 hm4
      subst hl3 hl4
      refine ⟨⟨k0, k1, k2, l3.map (·.1), A3, d3, l4.map (·.1), A4, d4⟩, by simp [TrV.val], ⟨fun i x hx => ?_, fun x hx => ?_, fun i x hx => ?_, fun x hx => ?_, by simp only [List.length_map]; omega, by simp only [List.length_map]; omega⟩⟩
      · rw [List.getElem?_map] at hx
        obtain ⟨z, hz, rfl⟩ := Option.map_eq_some_iff.1 hx
        exact hc3 i z hz
      · obtain ⟨z, _, rfl⟩ := List.mem_map.1 hx
        exact z.2
      · rw [List.getElem?_map] at hx
        obtain ⟨z, hz, rfl⟩ := Option.map_eq_some_iff.1 hx
        exact hc4 i z hz
      · obtain ⟨z, _, rfl⟩ := List.mem_map.1 hx
        exact z.2
end
end Go.Proofs.Ytilkoooahoecfaa.Er

/- Wagon: more arguments opened to data. (Printed by mk_war.py.) -/
import Derived.Test.YtbpmfaibcibleaaWaO
namespace Go.Proofs.Ytbpmfaibcibleaa
open Go.ChangeShapes Go.WideShapes Go.ChangeAt Go.RowKit Go.Joins Go.Bs Go.Deep Go.Wg
set_option maxRecDepth 100000 in
theorem ints_in {H : Type} {enc : TypeId × Value → H} {w : World} {base fuel : Nat} {spare : Nat → Bool} {held : Bool} {v : Value} {x : DataW H × List MemPlace} (h : DataW.trod enc Try.prog w base spare held fuel 35 [v] = some x) :
    ∃ A n c l, v = .slice A n c ∧ l.length = n ∧ n ≤ c ∧ c ≤ maxLen ∧ Cells w A 1 Go.Bs.encI l := by
  rcases open_ints Try.underlying35 Try.underlying3 (by kernel_rfl) h with ⟨hcs, _⟩ | ⟨a, l, c, zs, hcs, _, hl, hm, hz, _, hcell, hwz⟩
  · simp only [List.cons.injEq, and_true] at hcs
    exact ⟨none, 0, 0, [], hcs, rfl, Nat.le_refl _, by unfold maxLen; omega, Cells.nil⟩
  · simp only [List.cons.injEq, and_true] at hcs
    have hlz : l ≤ zs.length := by rw [hz]; split <;> omega
    refine ⟨some a, l, c, zs.take l, hcs, by simp; omega, hl, hm, fun i y hi => ?_⟩
    have hil : i < l := by
      have := (List.getElem?_eq_some_iff.1 hi).1
      simp at this; omega
    have hc := hcell i (by omega)
    obtain ⟨b, off, spot⟩ := a
    have hspot : spot = none := by
      simpa [Addr.add] using World.cell?_spot (hcell 0 (by omega))
    subst hspot
    refine ⟨b, off, rfl, fun j u hj => ?_⟩
    rcases j with _ | j
    · simp only [Go.Bs.encI, List.getElem?_cons_zero, Option.some.injEq] at hj
      subst hj
      have hy : zs.getD i 0 = y := by
        rw [List.getElem?_take] at hi
        rw [if_pos hil] at hi
        simp [hi]
      rw [hy] at hc
      have h2 : (⟨b, off, none⟩ : Addr).add i = ⟨b, off + i, none⟩ := by
        unfold Addr.add
        split
        · rename_i h0; subst h0; rfl
        · rfl
      rw [h2] at hc
      simpa using hc
    · simp [Go.Bs.encI] at hj
theorem rows_in {H α : Type} [Inhabited α] {enc : TypeId × Value → H} {w : World} {base fuel sz : Nat} {spare : Nat → Bool} {held : Bool} {v : Value} {x : DataW H × List MemPlace} {t e : TypeId} (ht : Try.prog.underlying t = some (.slice e)) (hC : Try.prog.cellsOf e = sz) (hsz : 0 < sz) (ec : α → List Value)
    (hin : ∀ n cs y, DataW.trod enc Try.prog w base spare held n e cs = some y → ∃ x : α, cs = ec x)
    (h : DataW.trod enc Try.prog w base spare held fuel t [v] = some x) :
    ∃ A n c l, v = .slice A n c ∧ l.length = n ∧ n ≤ c ∧ c ≤ maxLen ∧ Cells w A sz ec l := by
  rcases open_slice ht h with ⟨hcs, _⟩ | ⟨a, len, cap, m, n, D, Pl, hcs, _, hl, hm, hmm, _, hi⟩
  · simp only [List.cons.injEq, and_true] at hcs
    exact ⟨none, 0, 0, [], hcs, rfl, Nat.le_refl _, by unfold maxLen; omega, Cells.nil⟩
  · simp only [List.cons.injEq, and_true] at hcs
    have hlm : len ≤ m := by rw [hmm]; split <;> omega
    rw [hC] at hi
    have key : ∀ i, i < len → ∃ x : α, w.cells? base (a.add (i * sz)) sz = some (ec x) := fun i h' => by
      obtain ⟨cs', h1, h2⟩ := hi i (by omega)
      obtain ⟨x, rfl⟩ := hin _ _ _ h2
      exact ⟨x, h1⟩
    obtain ⟨f, hf⟩ : ∃ f : Nat → α, ∀ i, i < len → w.cells? base (a.add (i * sz)) sz = some (ec (f i)) :=
      ⟨fun i => if h' : i < len then Classical.choose (key i h') else default, fun i h' => by simp only [dif_pos h']; exact Classical.choose_spec (key i h')⟩
    refine ⟨some a, len, cap, (List.range len).map f, hcs, by simp, hl, hm, fun i y hy => ?_⟩
    have hil : i < len := by
      have := (List.getElem?_eq_some_iff.1 hy).1
      simpa using this
    have hy2 : y = f i := by simpa [hil] using hy.symm
    subst hy2
    obtain ⟨_, hcl, hat⟩ := World.cells?_some (hf i hil)
    obtain ⟨b, off, spot⟩ := a
    obtain ⟨_, hcl0, hat0⟩ := World.cells?_some (hf 0 (by omega))
    have hz := hat0 0 hsz
    rw [List.getElem?_eq_getElem (show 0 < (ec (f 0)).length by omega)] at hz
    have hspot : spot = none := by
      simpa [Addr.add] using World.cell?_spot hz
    subst hspot
    refine ⟨b, off, rfl, fun j u hj => ?_⟩
    have hjl : j < sz := by
      have := (List.getElem?_eq_some_iff.1 hj).1
      omega
    have h1 := hat j hjl
    rw [hj, add_add] at h1
    have h2 : (⟨b, off, none⟩ : Addr).add (i * sz + j) = ⟨b, off + (i * sz + j), none⟩ := by
      unfold Addr.add
      split
      · rename_i h0; rw [h0]; rfl
      · rfl
    rw [h2] at h1
    exact h1
section
variable {H : Type} {enc : TypeId × Value → H} {w : World} {base : Nat} {spare : Nat → Bool} {held : Bool}
set_option maxRecDepth 100000 in
theorem thing_in {n : Nat} {cs : List Value} {y : DataW H × List MemPlace} (h : DataW.trod enc Try.prog w base spare held n 62 cs = some y) : ∃ x : Th, cs = Th.enc x := by
  obtain ⟨xs, m, _, _, hlen, hxl, hg⟩ := DataW.trod_struct Try.underlying62 h
  have hlen2 : cs.length = 4 := hlen.trans (by kernel_rfl)
  have g3 : Try.prog.cellsOf 3 = 1 := by kernel_rfl
  match cs, hlen2 with
  | [c0, c1, c2, c3], _ =>
    match xs, hxl with
    | [y0, y1, y2, y3], _ =>
      have a0 : DataW.trod enc Try.prog w base spare held m 3 (([c0, c1, c2, c3].drop 0).take (Try.prog.cellsOf 3)) = some y0 := hg 0 _ rfl
      rw [g3] at a0
      have a0 : DataW.trod enc Try.prog w base spare held m 3 [c0] = some y0 := a0
      have a1 : DataW.trod enc Try.prog w base spare held m 3 (([c0, c1, c2, c3].drop 1).take (Try.prog.cellsOf 3)) = some y1 := hg 1 _ rfl
      rw [g3] at a1
      have a1 : DataW.trod enc Try.prog w base spare held m 3 [c1] = some y1 := a1
      have a2 : DataW.trod enc Try.prog w base spare held m 3 (([c0, c1, c2, c3].drop 2).take (Try.prog.cellsOf 3)) = some y2 := hg 2 _ rfl
      rw [g3] at a2
      have a2 : DataW.trod enc Try.prog w base spare held m 3 [c2] = some y2 := a2
      have a3 : DataW.trod enc Try.prog w base spare held m 3 (([c0, c1, c2, c3].drop 3).take (Try.prog.cellsOf 3)) = some y3 := hg 3 _ rfl
      rw [g3] at a3
      have a3 : DataW.trod enc Try.prog w base spare held m 3 [c3] = some y3 := a3
      obtain ⟨k0, e0⟩ := int1_in Try.underlying3 a0
      obtain ⟨k1, e1⟩ := int1_in Try.underlying3 a1
      obtain ⟨k2, e2⟩ := int1_in Try.underlying3 a2
      obtain ⟨k3, e3⟩ := int1_in Try.underlying3 a3
      simp at e0
      subst e0
      simp at e1
      subst e1
      simp at e2
      subst e2
      simp at e3
      subst e3
      exact ⟨⟨k0, k1, k2, k3⟩, rfl⟩
set_option maxRecDepth 100000 in
theorem bridge_in {n : Nat} {cs : List Value} {y : DataW H × List MemPlace} (h : DataW.trod enc Try.prog w base spare held n 118 cs = some y) : ∃ x : Br, cs = Br.enc x := by
  obtain ⟨xs, m, _, _, hlen, hxl, hg⟩ := DataW.trod_struct Try.underlying118 h
  have hlen2 : cs.length = 2 := hlen.trans (by kernel_rfl)
  have g3 : Try.prog.cellsOf 3 = 1 := by kernel_rfl
  match cs, hlen2 with
  | [c0, c1], _ =>
    match xs, hxl with
    | [y0, y1], _ =>
      have a0 : DataW.trod enc Try.prog w base spare held m 3 (([c0, c1].drop 0).take (Try.prog.cellsOf 3)) = some y0 := hg 0 _ rfl
      rw [g3] at a0
      have a0 : DataW.trod enc Try.prog w base spare held m 3 [c0] = some y0 := a0
      have a1 : DataW.trod enc Try.prog w base spare held m 3 (([c0, c1].drop 1).take (Try.prog.cellsOf 3)) = some y1 := hg 1 _ rfl
      rw [g3] at a1
      have a1 : DataW.trod enc Try.prog w base spare held m 3 [c1] = some y1 := a1
      obtain ⟨k0, e0⟩ := int1_in Try.underlying3 a0
      obtain ⟨k1, e1⟩ := int1_in Try.underlying3 a1
      simp at e0
      subst e0
      simp at e1
      subst e1
      exact ⟨⟨k0, k1⟩, rfl⟩
end
section
variable {H : Type} {enc : TypeId × Value → H} {w : World} {base : Nat} {spare : Nat → Bool} {held : Bool} {b0 : Nat} {v : Value} {d : DataW H} {p : List MemPlace}
set_option maxRecDepth 100000 in
theorem ints_arg (hv : Value.okWide Try.prog w .any b0 35 v) (h : DataW.Trod enc Try.prog w base spare held 35 v d p) :
    ∃ A n c l, v = .slice A n c ∧ l.length = n ∧ n ≤ c ∧ n ≤ 9223372036854775807 ∧ Cells w A 1 Go.Bs.encI l := by
  obtain ⟨A, n, c, rfl⟩ := okWide_slice Try.underlying35 hv
  obtain ⟨fuel, hf⟩ := h
  obtain ⟨A', n', c', l, e, hl, hlc, hcm, hc⟩ := ints_in hf
  cases e
  exact ⟨A, n, c, l, rfl, hl, hlc, by unfold maxLen at hcm; omega, hc⟩
set_option maxRecDepth 100000 in
theorem things_arg (hv : Value.okWide Try.prog w .any b0 38 v) (h : DataW.Trod enc Try.prog w base spare held 38 v d p) :
    ∃ A n c l, v = .slice A n c ∧ l.length = n ∧ n ≤ c ∧ n ≤ 9223372036854775807 ∧ Cells w A 4 Th.enc l := by
  obtain ⟨A, n, c, rfl⟩ := okWide_slice Try.underlying38 hv
  obtain ⟨fuel, hf⟩ := h
  haveI : Inhabited Th := ⟨⟨0, 0, 0, 0⟩⟩
  obtain ⟨A', n', c', l, e, hl, hlc, hcm, hc⟩ := rows_in (sz := 4) Try.underlying38 (by kernel_rfl) (by decide) Th.enc (fun _ _ _ h => thing_in h) hf
  cases e
  exact ⟨A, n, c, l, rfl, hl, hlc, by unfold maxLen at hcm; omega, hc⟩
set_option maxRecDepth 100000 in
theorem bridges_arg (hv : Value.okWide Try.prog w .any b0 77 v) (h : DataW.Trod enc Try.prog w base spare held 77 v d p) :
    ∃ A n c l, v = .slice A n c ∧ l.length = n ∧ n ≤ c ∧ n ≤ 9223372036854775807 ∧ Cells w A 2 Br.enc l := by
  obtain ⟨A, n, c, rfl⟩ := okWide_slice Try.underlying77 hv
  obtain ⟨fuel, hf⟩ := h
  haveI : Inhabited Br := ⟨⟨0, 0⟩⟩
  obtain ⟨A', n', c', l, e, hl, hlc, hcm, hc⟩ := rows_in (sz := 2) Try.underlying77 (by kernel_rfl) (by decide) Br.enc (fun _ _ _ h => bridge_in h) hf
  cases e
  exact ⟨A, n, c, l, rfl, hl, hlc, by unfold maxLen at hcm; omega, hc⟩
set_option maxRecDepth 100000 in
theorem lorry_arg (hv : Value.okWide Try.prog w .any b0 37 v) (h : DataW.Trod enc Try.prog w base spare held 37 v d p) :
    ∃ A n c l h ca em re ax dk, v = .agg #[.slice A n c, .int .i64 h, .int .i64 ca, .int .i64 em, .int .i64 re, .int .i64 ax, .int .i64 dk] ∧ l.length = n ∧ n ≤ c ∧ n ≤ 9223372036854775807 ∧ Cells w A 1 Go.Bs.encI l := by
  obtain ⟨cs, rfl, hsz⟩ := okWide_struct Try.underlying37 hv
  obtain ⟨fuel, hf⟩ := h
  obtain ⟨xs, m, _, _, hlen, hxl, hg⟩ := DataW.trod_struct Try.underlying37 hf
  have hlen2 : cs.toList.length = 7 := by rw [Array.length_toList]; exact hsz.trans (by kernel_rfl)
  have g3 : Try.prog.cellsOf 3 = 1 := by kernel_rfl
  have g35 : Try.prog.cellsOf 35 = 1 := by kernel_rfl
  obtain ⟨cl⟩ := cs
  simp only [Value.cells] at hg
  match cl, hlen2 with
  | [c0, c1, c2, c3, c4, c5, c6], _ =>
    match xs, hxl with
    | [y0, y1, y2, y3, y4, y5, y6], _ =>
      have a0 : DataW.trod enc Try.prog w base spare held m 35 (([c0, c1, c2, c3, c4, c5, c6].drop 0).take (Try.prog.cellsOf 35)) = some y0 := hg 0 _ rfl
      rw [g35] at a0
      have a0 : DataW.trod enc Try.prog w base spare held m 35 [c0] = some y0 := a0
      have a1 : DataW.trod enc Try.prog w base spare held m 3 (([c0, c1, c2, c3, c4, c5, c6].drop 1).take (Try.prog.cellsOf 3)) = some y1 := hg 1 _ rfl
      rw [g3] at a1
      have a1 : DataW.trod enc Try.prog w base spare held m 3 [c1] = some y1 := a1
      have a2 : DataW.trod enc Try.prog w base spare held m 3 (([c0, c1, c2, c3, c4, c5, c6].drop 2).take (Try.prog.cellsOf 3)) = some y2 := hg 2 _ rfl
      rw [g3] at a2
      have a2 : DataW.trod enc Try.prog w base spare held m 3 [c2] = some y2 := a2
      have a3 : DataW.trod enc Try.prog w base spare held m 3 (([c0, c1, c2, c3, c4, c5, c6].drop 3).take (Try.prog.cellsOf 3)) = some y3 := hg 3 _ rfl
      rw [g3] at a3
      have a3 : DataW.trod enc Try.prog w base spare held m 3 [c3] = some y3 := a3
      have a4 : DataW.trod enc Try.prog w base spare held m 3 (([c0, c1, c2, c3, c4, c5, c6].drop 4).take (Try.prog.cellsOf 3)) = some y4 := hg 4 _ rfl
      rw [g3] at a4
      have a4 : DataW.trod enc Try.prog w base spare held m 3 [c4] = some y4 := a4
      have a5 : DataW.trod enc Try.prog w base spare held m 3 (([c0, c1, c2, c3, c4, c5, c6].drop 5).take (Try.prog.cellsOf 3)) = some y5 := hg 5 _ rfl
      rw [g3] at a5
      have a5 : DataW.trod enc Try.prog w base spare held m 3 [c5] = some y5 := a5
      have a6 : DataW.trod enc Try.prog w base spare held m 3 (([c0, c1, c2, c3, c4, c5, c6].drop 6).take (Try.prog.cellsOf 3)) = some y6 := hg 6 _ rfl
      rw [g3] at a6
      have a6 : DataW.trod enc Try.prog w base spare held m 3 [c6] = some y6 := a6
      obtain ⟨k1, e1⟩ := int1_in Try.underlying3 a1
      obtain ⟨k2, e2⟩ := int1_in Try.underlying3 a2
      obtain ⟨k3, e3⟩ := int1_in Try.underlying3 a3
      obtain ⟨k4, e4⟩ := int1_in Try.underlying3 a4
      obtain ⟨k5, e5⟩ := int1_in Try.underlying3 a5
      obtain ⟨k6, e6⟩ := int1_in Try.underlying3 a6
      simp at e1
      subst e1
      simp at e2
      subst e2
      simp at e3
      subst e3
      simp at e4
      subst e4
      simp at e5
      subst e5
      simp at e6
      subst e6
      obtain ⟨A, n, c, l, rfl, hl, hlc, hm, hc⟩ := ints_in a0
      exact ⟨A, n, c, l, k1, k2, k3, k4, k5, k6, rfl, hl, hlc, by unfold maxLen at hm; omega, hc⟩
end
end Go.Proofs.Ytbpmfaibcibleaa

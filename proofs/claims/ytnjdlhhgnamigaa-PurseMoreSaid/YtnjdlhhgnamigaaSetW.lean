/- Settle of a valid week, with its lists at hand; what stands in them. -/
import Derived.Test.YtnjdlhhgnamigaaSetU
import Derived.Test.YtnjdlhhgnamigaaSetS
import Derived.Test.YtnjdlhhgnamigaaSetV
namespace Go.Proofs.Ytnjdlhhgnamigaa
open Go.RowKit Go.Bs Go.Pu Go.Pl Go.Sort

/-- the lists of a pay -/
structure PayC (w : World) (wk : Wk) (G1 G2 G3 G4 G5 : Option Addr) : Prop where
  g : Cells w G1 1 encI wk.settle.gross
  t : Cells w G2 1 encI wk.settle.taxes
  p : Cells w G3 1 encI wk.settle.paid
  s : Cells w G4 1 encI wk.settle.short
  x : Cells w G5 1 encI wk.settle.extra
section
variable {w w' : World} {wk : Wk} {G1 G2 G3 G4 G5 : Option Addr}
theorem PayC.ext (h : PayC w wk G1 G2 G3 G4 G5) (hb : Below w.heap.size w w') : PayC w' wk G1 G2 G3 G4 G5 := ⟨h.g.ext hb, h.t.ext hb, h.p.ext hb, h.s.ext hb, h.x.ext hb⟩
theorem tab_at {G : Option Addr} {m : Nat} {f : Nat → Int} (h : Cells w G 1 encI (tab m f)) {i : Nat} (hi : i < m) : ∃ b o, G = some ⟨b, o, none⟩ ∧ w.cell? ⟨b, o + i, none⟩ = some (.int .i64 (f i)) := by
  have hl : i < (tab m f).length := by rw [tab_len]; exact hi
  have e : (tab m f)[i] = f i := by have := tab_get f hi; rw [List.getElem?_eq_getElem hl] at this; exact Option.some.inj this
  obtain ⟨b, o, h1, -, h2⟩ := h.at1 hl rfl
  rw [e] at h2
  exact ⟨b, o, h1, h2⟩
theorem PayC.at_g (h : PayC w wk G1 G2 G3 G4 G5) {i : Nat} (hi : i < wk.ctys.length) : ∃ b o, G1 = some ⟨b, o, none⟩ ∧ w.cell? ⟨b, o + i, none⟩ = some (.int .i64 (wk.ctys.getD i default).gross) := by
  have := h.g
  rw [show wk.settle.gross = wk.ctys.map Cty.gross from rfl, tab_map wk.ctys Cty.gross default] at this
  exact tab_at this hi
theorem PayC.at_t (h : PayC w wk G1 G2 G3 G4 G5) {i : Nat} (hi : i < wk.ctys.length) : ∃ b o, G2 = some ⟨b, o, none⟩ ∧ w.cell? ⟨b, o + i, none⟩ = some (.int .i64 (wk.ctys.getD i default).taxes) := by
  have := h.t
  rw [show wk.settle.taxes = wk.ctys.map Cty.taxes from rfl, tab_map wk.ctys Cty.taxes default] at this
  exact tab_at this hi
theorem PayC.at_p (h : PayC w wk G1 G2 G3 G4 G5) {i : Nat} (hi : i < wk.ctrs.length) : ∃ b o, G3 = some ⟨b, o, none⟩ ∧ w.cell? ⟨b, o + i, none⟩ = some (.int .i64 (wk.paid i)) := tab_at h.p hi
theorem PayC.at_s (h : PayC w wk G1 G2 G3 G4 G5) {i : Nat} (hi : i < wk.ctrs.length) : ∃ b o, G4 = some ⟨b, o, none⟩ ∧ w.cell? ⟨b, o + i, none⟩ = some (.int .i64 ((ctr wk i).wage - wk.paid i)) := tab_at h.s hi
theorem PayC.at_x (h : PayC w wk G1 G2 G3 G4 G5) {i : Nat} (hi : i < wk.ctrs.length) : ∃ b o, G5 = some ⟨b, o, none⟩ ∧ w.cell? ⟨b, o + i, none⟩ = some (.int .i64 (wk.extra i)) := tab_at h.x hi
theorem ctr_at {B : Option Addr} (h : Cells w B 3 Ctr.enc wk.ctrs) {i : Nat} (hi : i < wk.ctrs.length) :
    ∃ b o, B = some ⟨b, o, none⟩ ∧ w.cell? ⟨b, o + i * 3, none⟩ = some (.int .i64 (ctr wk i).rank) ∧ w.cell? ⟨b, o + i * 3 + 1, none⟩ = some (.int .i64 (ctr wk i).wage) ∧ w.cell? ⟨b, o + i * 3 + 2, none⟩ = some (.int .i64 (ctr wk i).share) := by
  have e : ctr wk i = wk.ctrs[i] := by simp [Go.Pu.ctr, hi]
  obtain ⟨b, o, h1, -, h2, h3, h4⟩ := h.at3 hi rfl
  rw [e]
  exact ⟨b, o, h1, h2, h3, h4⟩
end
theorem settle_good (wk : Wk) (A B : Option Addr) (n c m d : Nat) (w : World) (hn : wk.ctys.length = n) (hm : wk.ctrs.length = m) (hA : Cells w A 4 Cty.enc wk.ctys) (hB : Cells w B 3 Ctr.enc wk.ctrs) (hok : wk.okB = true) :
    Calls Try.prog 17 #[wkV A n c wk.premium B m d] w fun e w' => ∃ G1 z1 G2 z2 G3 z3 G4 z4 G5 z5, e = .returned (.tuple #[payV (.slice G1 n z1) (.slice G2 n z2) wk.prem (wk.premium - wk.prem) (.slice G3 m z3) (.slice G4 m z4) (.slice G5 m z5) wk.settle.rest, .int .i64 0]) ∧
      PayC w' wk G1 G2 G3 G4 G5 ∧ Below w.heap.size w w' := by
  have l1 : wk.settle.gross.length = n := by rw [← hn]; exact List.length_map ..
  have l2 : wk.settle.taxes.length = n := by rw [← hn]; exact List.length_map ..
  have l3 : wk.settle.paid.length = m := by rw [← hm]; exact tab_len ..
  have l4 : wk.settle.short.length = m := by rw [← hm]; exact tab_len ..
  have l5 : wk.settle.extra.length = m := by rw [← hm]; exact tab_len ..
  refine (settle_ok wk A B n c m d w hn hm hA hB hok).mono ?_
  rintro e w1 ⟨v1, v2, v3, v4, v5, rfl, ⟨A1, c1, rfl, -, -, f1, -⟩, ⟨A2, c2, rfl, -, -, f2, -⟩, ⟨A3, c3, rfl, -, -, f3, -⟩, ⟨A4, c4, rfl, -, -, f4, -⟩, ⟨A5, c5, rfl, -, -, f5, -⟩, hb⟩
  rw [l1, l2, l3, l4, l5]
  exact ⟨A1, c1, A2, c2, A3, c3, A4, c4, A5, c5, rfl, ⟨f1, f2, f3, f4, f5⟩, hb⟩
end Go.Proofs.Ytnjdlhhgnamigaa

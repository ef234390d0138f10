/- A slice that the call itself makes by append. -/
import Derived.Deep.AppendLies
import Derived.Test.YtopfhinnamhoiaaBase
namespace Go.Bs
open Go.RowKit Go.Sort Go.Pl

/-- The facts on a slice type and its element's. -/
def ElemT (P : Program) (t e : TypeId) (sz bytes : Nat) : Prop :=
  ∃ i z, P.underlying t = some (.slice e) ∧ P.info? e = some i ∧ i.zero = some z ∧ i.size = sz ∧ i.bytes = bytes ∧ z.cells.size = sz
theorem ElemT.mk {P : Program} {t e : TypeId} {sz bytes : Nat} {z : Value} (ht : P.underlying t = some (.slice e)) (h : (P.info? e).map (fun i => (i.zero, i.size, i.bytes)) = some (some z, sz, bytes)) (hz : z.cells.size = sz) : ElemT P t e sz bytes := by
  obtain ⟨i, hi, hz0, hz1, hz2⟩ := info_parts h
  exact ⟨i, z, ht, hi, hz0, hz1, hz2, hz⟩

/-- v is a slice of the call's own, from block base on, that reads as l. -/
def OwnL {α : Type} (w : World) (base : Nat) (e : TypeId) (sz : Nat) (enc : α → List Value) (v : Value) (l : List α) : Prop := w.ownsRow base e sz v l.length (l.flatMap enc)
section
variable {α : Type} {w w' : World} {base : Nat} {e : TypeId} {sz : Nat} {enc : α → List Value} {v : Value} {l : List α}
theorem OwnL.nil : OwnL w base e sz enc (.slice none 0 0) ([] : List α) := World.ownsRow_nil w base e sz
theorem OwnL.kept {row : Option Nat} (h : OwnL w base e sz enc v l) (hg : w.grownBy w' row) (hne : v.ownBlock = none ∨ v.ownBlock ≠ row) : OwnL w' base e sz enc v l := World.ownsRow.kept h hg hne
theorem grown_of_ext (hb : Below w.heap.size w w') (row : Option Nat) : w.grownBy w' row := ⟨hb.os, hb.tape, hb.output, hb.size, fun k hk _ => hb.block k hk⟩
theorem OwnL.ext (h : OwnL w base e sz enc v l) (hb : Below w.heap.size w w') : OwnL w' base e sz enc v l :=
  h.kept (grown_of_ext hb none) (by cases v.ownBlock <;> simp)
theorem OwnL.alloc (h : OwnL w base e sz enc v l) (o : Obj) : OwnL (w.alloc o) base e sz enc v l := h.ext (ext_alloc w o)
theorem OwnL.drew (h : OwnL w base e sz enc v l) : OwnL w.drew base e sz enc v l := h.ext (ext_drew w)
theorem OwnL.lt (h : OwnL w base e sz enc v l) {k : Nat} (hk : v.ownBlock = some k) : base ≤ k ∧ k < w.heap.size := World.ownsRow.lt h k hk
theorem flatMap_get (hen : ∀ x, (enc x).length = sz) : ∀ (l : List α) (i j : Nat) (x : α) (y : Value), l[i]? = some x → (enc x)[j]? = some y → (l.flatMap enc)[i * sz + j]? = some y
  | [], i, j, x, y, h, _ => by simp at h
  | a :: l, 0, j, x, y, h, hy => by
    simp only [List.getElem?_cons_zero, Option.some.injEq] at h
    subst h
    have hj : j < (enc a).length := (List.getElem?_eq_some_iff.1 hy).1
    rw [List.flatMap_cons, Nat.zero_mul, Nat.zero_add, List.getElem?_append_left hj]; exact hy
  | a :: l, i + 1, j, x, y, h, hy => by
    simp only [List.getElem?_cons_succ] at h
    have ih := flatMap_get hen l i j x y h hy
    rw [List.flatMap_cons, List.getElem?_append_right (by rw [hen, Nat.add_mul]; omega), hen, show (i + 1) * sz + j - sz = i * sz + j by rw [Nat.add_mul]; omega]
    exact ih
/-- The slice reads as l. -/
theorem OwnL.cells (h : OwnL w base e sz enc v l) (hen : ∀ x, (enc x).length = sz) : ∃ A c, v = .slice A l.length c ∧ l.length ≤ c ∧ c ≤ maxLen ∧ Cells w A sz enc l := by
  rcases h.2 with ⟨rfl, hn⟩ | ⟨g, cap, cur, rfl, hb, hg, hnc, hcm, hcs, htake⟩
  · refine ⟨none, 0, by rw [hn], by omega, by omega, fun i x hi => ?_⟩
    have : l = [] := List.length_eq_zero_iff.1 hn
    subst this
    simp at hi
  · refine ⟨some ⟨g, 0, none⟩, cap, rfl, hnc, hcm, fun i x hi => ⟨g, 0, rfl, fun j y hj => ?_⟩⟩
    have h1 := flatMap_get hen l i j x y hi hj
    rw [← htake] at h1
    have h2 : cur.toList[i * sz + j]? = some y := by
      rw [List.getElem?_take] at h1
      split at h1
      · exact h1
      · cases h1
    simp only [World.cell?, hg, Nat.zero_add]
    simpa using h2
theorem OwnL.block_ge (h : OwnL w base e sz enc v l) {A : Option Addr} {n c : Nat} (hv : v = .slice A n c) : ∀ k, A.map (·.block) = some k → base ≤ k ∧ k < w.heap.size := by
  intro k hk
  refine h.lt ?_
  rw [hv]
  cases A with
  | none => cases hk
  | some a => simpa [Value.ownBlock] using hk
end

/-- append(s, y) onto a slice of the call's own. -/
theorem app1 {P : Program} {ops : Array Oper} {rest : List Oper} {o : Oper} {a : Act} {Q : Exit → Act → World → Prop} {w : World} {α : Type} (enc : α → List Value) (t e : TypeId) (sz bytes : Nat) (hT : ElemT P t e sz bytes) (hsz : 0 < sz) (hby : bytes ≤ 1000)
    (hen : ∀ x, (enc x).length = sz) (h1c : ∀ x, ∀ u ∈ enc x, u.oneCell' = true) (hgd : o.guard = none) (s x : Operand)
    (ho : o.op = .call { callee := .builtin .append, args := #[s, x], argTypes := #[t, t] }) (base : Nat) (v : Value) (l : List α) (hs : a.eval s = v) (hown : OwnL w base e sz enc v l)
    (g : Nat) (hx : a.eval x = .slice (some ⟨g, 0, none⟩) 1 1) (y : α) (hc : ∀ j u, (enc y)[j]? = some u → w.cell? ⟨g, j, none⟩ = some u) (hlen : l.length ≤ 1000000) (hbase : base ≤ w.heap.size)
    (h : ∀ g' cap w', OwnL w' base e sz enc (.slice (some ⟨g', 0, none⟩) (l.length + 1) cap) (l ++ [y]) → Below base w w' → w.grownBy w' v.ownBlock → (v.ownBlock = some g' ∨ g' = w.heap.size) → wpList P ops Q rest (a.put o.dst (.slice (some ⟨g', 0, none⟩) (l.length + 1) cap)) w') :
    wpList P ops Q (o :: rest) a w := by
  obtain ⟨i, z, ht, hi, hz, hs1, hb1, hz1⟩ := hT
  have hmul : (l.length + 1) * bytes ≤ 1000001 * 1000 := Nat.mul_le_mul (by omega) hby
  refine wpList_append_lies w hgd s x t ho base e i z sz bytes ht hi hz hs1 hb1 hz1 hsz v l.length (l.flatMap enc) hs hown ⟨g, 0, none⟩ 1 1 (enc y) hx (by rw [hen]; omega) ?_ (h1c y) (by omega) (by unfold maxLen; omega) (by omega) hbase w.heap.size rfl ?_
  · intro j u hj
    have := hc j u hj
    unfold Addr.add
    split
    · rename_i h0; subst h0; exact this
    · simpa using this
  · intro g' cap w' hown' hgrow hat hlt
    refine h g' cap w' ?_ ?_ hgrow hat
    · unfold OwnL
      rw [List.length_append, List.flatMap_append]
      simpa using hown'
    · exact (Below.refl base w).grown hgrow hbase (fun k hk => (hown.lt hk).1)
end Go.Bs
namespace Go.Bs
open Go.RowKit
/-- A slice that reads as l and lies in memory that is newer than w. -/
def FreshL {α : Type} (w w' : World) (sz : Nat) (enc : α → List Value) (v : Value) (l : List α) : Prop :=
  ∃ A c, v = .slice A l.length c ∧ l.length ≤ c ∧ c ≤ maxLen ∧ Cells w' A sz enc l ∧ ∀ k, A.map (·.block) = some k → w.heap.size ≤ k ∧ k < w'.heap.size
theorem FreshL.of_own {α : Type} {w w' : World} {base : Nat} {e : TypeId} {sz : Nat} {enc : α → List Value} {v : Value} {l : List α} (h : OwnL w' base e sz enc v l) (hen : ∀ x, (enc x).length = sz) (hb : w.heap.size ≤ base) : FreshL w w' sz enc v l := by
  obtain ⟨A, c, hv, h1, h2, h3⟩ := h.cells hen
  refine ⟨A, c, hv, h1, h2, h3, fun k hk => ?_⟩
  have := h.block_ge hv k hk
  omega
theorem FreshL.nil {α : Type} (w w' : World) (sz : Nat) (enc : α → List Value) : FreshL w w' sz enc (.slice none 0 0) ([] : List α) :=
  ⟨none, 0, rfl, by simp, by omega, Cells.nil, fun k hk => by cases hk⟩
theorem FreshL.ext {α : Type} {w w' w'' : World} {sz : Nat} {enc : α → List Value} {v : Value} {l : List α} (h : FreshL w w' sz enc v l) (hb : Below w'.heap.size w' w'') : FreshL w w'' sz enc v l := by
  obtain ⟨A, c, hv, h1, h2, h3, h4⟩ := h
  exact ⟨A, c, hv, h1, h2, h3.ext hb, fun k hk => ⟨(h4 k hk).1, Nat.lt_of_lt_of_le (h4 k hk).2 hb.size⟩⟩
theorem FreshL.older {α : Type} {w0 w w' : World} {sz : Nat} {enc : α → List Value} {v : Value} {l : List α} (h : FreshL w w' sz enc v l) (hb : w0.heap.size ≤ w.heap.size) : FreshL w0 w' sz enc v l := by
  obtain ⟨A, c, hv, h1, h2, h3, h4⟩ := h
  exact ⟨A, c, hv, h1, h2, h3, fun k hk => ⟨Nat.le_trans hb (h4 k hk).1, (h4 k hk).2⟩⟩
theorem encI_len (x : Int) : (encI x).length = 1 := rfl
theorem encI_one (x : Int) : ∀ u ∈ encI x, u.oneCell' = true := by intro u hu; simp [encI] at hu; rw [hu]; rfl
theorem encI_cell {w : World} {g : Nat} {y : Int} (h : w.cell? ⟨g, 0, none⟩ = some (.int .i64 y)) : ∀ j u, (encI y)[j]? = some u → w.cell? ⟨g, j, none⟩ = some u := by
  intro j u hj
  rcases j with _ | j
  · simp [encI] at hj; rw [← hj]; exact h
  · simp [encI] at hj
end Go.Bs

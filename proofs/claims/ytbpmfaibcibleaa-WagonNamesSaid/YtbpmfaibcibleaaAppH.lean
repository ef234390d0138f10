/- An append of whole rows, of any type of element. -/
import Derived.Test.YtbpmfaibcibleaaGround
import Derived.Test.YtbpmfaibcibleaaTooA
/- append of a whole row onto a row of the call's own; one cell of a row written. -/
namespace Go.Bs
open Go.RowKit Go.Sort Go.Pl
theorem flat_get {α : Type} {enc : α → List Value} {sz : Nat} (hen : ∀ x, (enc x).length = sz) : ∀ (l : List α) (j : Nat) (u : Value), (l.flatMap enc)[j]? = some u → ∃ k r x, j = k * sz + r ∧ l[k]? = some x ∧ (enc x)[r]? = some u
  | [], j, u, h => by simp at h
  | x :: l, j, u, h => by
    rw [List.flatMap_cons] at h
    by_cases hj : j < sz
    · rw [List.getElem?_append_left (by rw [hen]; exact hj)] at h
      exact ⟨0, j, x, by omega, rfl, h⟩
    · rw [List.getElem?_append_right (by rw [hen]; omega), hen] at h
      obtain ⟨k, r, y, h1, h2, h3⟩ := flat_get hen l (j - sz) u h
      exact ⟨k + 1, r, y, by rw [Nat.add_mul]; omega, by simpa using h2, h3⟩
theorem flat_len {α : Type} {enc : α → List Value} {sz : Nat} (hen : ∀ x, (enc x).length = sz) (l : List α) : (l.flatMap enc).length = l.length * sz := by
  induction l with
  | nil => simp
  | cons x l ih => rw [List.flatMap_cons, List.length_append, ih, hen, List.length_cons, Nat.add_mul]; omega
theorem app_row {P : Program} {ops : Array Oper} {rest : List Oper} {o : Oper} {a : Act} {Q : Exit → Act → World → Prop} {w : World} {α : Type} (enc : α → List Value) (t e : TypeId) (sz bytes : Nat) (hT : ElemT P t e sz bytes) (hsz : 0 < sz) (hby : bytes ≤ 1000)
    (hen : ∀ x, (enc x).length = sz) (h1c : ∀ x, ∀ u ∈ enc x, u.oneCell' = true) (hgd : o.guard = none) (s x : Operand)
    (ho : o.op = .call { callee := .builtin .append, args := #[s, x], argTypes := #[t, t] }) (base : Nat) (v : Value) (l : List α) (hs : a.eval s = v) (hown : OwnL w base e sz enc v l)
    (X : Option Addr) (m c : Nat) (l2 : List α) (hm : l2.length = m) (hx : a.eval x = .slice X m c) (hc : Cells w X sz enc l2) (hlen : l.length + m ≤ 1000000000) (hbase : base ≤ w.heap.size)
    (h : ∀ v' w', OwnL w' base e sz enc v' (l ++ l2) → Below base w w' → w.grownBy w' v.ownBlock → ((v' = v ∧ w' = w) ∨ ∃ g cap, v' = .slice (some ⟨g, 0, none⟩) (l.length + m) cap ∧ (v.ownBlock = some g ∨ g = w.heap.size)) → wpList P ops Q rest (a.put o.dst v') w') :
    wpList P ops Q (o :: rest) a w := by
  obtain ⟨i, z, ht, hi, hz, hs1, hb1, hz1⟩ := hT
  cases m with
  | zero =>
    have hl2 : l2 = [] := List.length_eq_zero_iff.1 hm
    subst hl2
    obtain ⟨A, d, rfl, hd, _⟩ := hown.cells hen
    have hrun := run_app_zero (P := P) (w := w) ht hi o.type A X l.length d c hd
    refine wpList_plain hgd fun K hK => ?_
    unfold Oper.wp
    simp [execOp, ho, resolve, invoke, builtin, hs, hx, hrun, Result.andThen]
    exact hK _ _ (h _ w (by simpa using hown) (Below.refl _ _) ⟨rfl, rfl, rfl, Nat.le_refl _, fun _ _ _ => rfl⟩ (.inl ⟨rfl, rfl⟩))
  | succ m =>
    obtain ⟨b, off, rfl, -⟩ := hc.at (k := 0) (by omega)
    have hmul : (l.length + (m + 1)) * bytes ≤ 1000000000 * 1000 := Nat.mul_le_mul hlen hby
    refine wpList_append_lies w hgd s x t ho base e i z sz bytes ht hi hz hs1 hb1 hz1 hsz v l.length (l.flatMap enc) hs hown ⟨b, off, none⟩ (m + 1) c (l2.flatMap enc) hx ?_ ?_ ?_ (by omega) (by unfold maxLen; omega) (by omega) hbase w.heap.size rfl ?_
    · rw [flat_len hen, hm]
    · intro j u hj
      obtain ⟨k, r, y, rfl, h2, h3⟩ := flat_get hen l2 j u hj
      obtain ⟨b', off', e', hcc⟩ := hc k y h2
      cases e'
      have := hcc r u h3
      unfold Addr.add
      split
      · rename_i h0; rw [h0] at this; simpa using this
      · simpa using this
    · intro u hu
      obtain ⟨y, hy, hu⟩ := List.mem_flatMap.1 hu
      exact h1c y u hu
    · intro g' cap w' hown' hgrow hat hlt
      refine h _ w' ?_ ((Below.refl base w).grown hgrow hbase (fun k hk => (hown.lt hk).1)) hgrow (.inr ⟨g', cap, rfl, hat⟩)
      unfold OwnL
      rw [List.length_append, List.flatMap_append, hm]
      exact hown'
theorem Cells.put1 {α : Type} {w : World} {b off sz : Nat} {enc : α → List Value} {l : List α} {k r : Nat} {x' : α} {u : Value} (h : Cells w (some ⟨b, off, none⟩) sz enc l) (hen : ∀ x, (enc x).length = sz) (hk : k < l.length) (hr : r < sz) (he : enc x' = (enc l[k]).set r u) :
    Cells (w.setCell ⟨b, off + (k * sz + r), none⟩ u) (some ⟨b, off, none⟩) sz enc (l.set k x') := by
  intro i x hi
  refine ⟨b, off, rfl, fun j y hj => ?_⟩
  have hjs : j < sz := by
    have := (List.getElem?_eq_some_iff.1 hj).1
    rw [hen] at this; exact this
  have hcell : ∀ i (hi : i < l.length) j y, (enc l[i])[j]? = some y → w.cell? ⟨b, off + (i * sz + j), none⟩ = some y := by
    intro i hi j y hj
    obtain ⟨b', off', e', hcc⟩ := h i l[i] (by simp [hi])
    cases e'
    exact hcc j y hj
  by_cases hik : i = k
  · subst hik
    have hx : x' = x := by simpa [hk] using hi
    subst hx
    rw [he] at hj
    by_cases hjr : j = r
    · subst hjr
      rw [List.getElem?_set_self (by rw [hen]; exact hr)] at hj
      cases hj
      have hjl : j < (enc l[i]).length := by have := hen l[i]; omega
      obtain ⟨z, h0⟩ : ∃ z, (enc l[i])[j]? = some z := ⟨_, List.getElem?_eq_getElem hjl⟩
      exact World.cell?_setCell_same _ _ _ (hcell i hk j z h0)
    · rw [List.getElem?_set_ne (fun e => hjr e.symm)] at hj
      rw [World.cell?_setCell_other _ _ _ _ (fun e => hjr (by injection e with e1 e2 e3; omega))]
      exact hcell i hk j y hj
  · rw [List.getElem?_set_ne (fun e => hik e.symm)] at hi
    have hil : i < l.length := (List.getElem?_eq_some_iff.1 hi).1
    have hx : l[i] = x := by simpa [hil] using hi
    subst hx
    rw [World.cell?_setCell_other _ _ _ _ (fun e => by
      injection e with e1 e2 e3
      rcases Nat.lt_or_gt_of_ne hik with hlt | hlt
      · have := Nat.mul_le_mul_right sz (show i + 1 ≤ k by omega)
        rw [Nat.add_mul] at this
        omega
      · have := Nat.mul_le_mul_right sz (show k + 1 ≤ i by omega)
        rw [Nat.add_mul] at this
        omega)]
    exact hcell i hil j y hj
end Go.Bs

/- append of a whole row as one operation of a plan. -/
namespace Go.Bs
open Go.RowKit Go.Sort Go.Pl
theorem grown_any {w w' : World} {row : Option Nat} (h : w.grownBy w' none) : w.grownBy w' row := ⟨h.os, h.tape, h.output, h.size, fun k hk _ => h.block k hk (by simp)⟩
theorem app_row_op {P : Program} {o : Oper} {a : Act} {K : Act → World → Prop} {Q : Exit → Act → World → Prop} {w : World} {α : Type} (enc : α → List Value) (t e : TypeId) (sz bytes : Nat) (hT : ElemT P t e sz bytes) (hsz : 0 < sz) (hby : bytes ≤ 1000)
    (hen : ∀ x, (enc x).length = sz) (h1c : ∀ x, ∀ u ∈ enc x, u.oneCell' = true) (s x : Operand)
    (ho : o.op = .call { callee := .builtin .append, args := #[s, x], argTypes := #[t, t] }) (base : Nat) (v : Value) (l : List α) (hs : a.eval s = v) (hown : OwnL w base e sz enc v l)
    (X : Option Addr) (m c : Nat) (l2 : List α) (hm : l2.length = m) (hx : a.eval x = .slice X m c) (hc : Cells w X sz enc l2) (hlen : l.length + m ≤ 1000000000) (hbase : base ≤ w.heap.size)
    (h : ∀ v' w', OwnL w' base e sz enc v' (l ++ l2) → Below base w w' → w.grownBy w' v.ownBlock → K (a.put o.dst v') w') : o.wp P a w K Q := by
  obtain ⟨i, z, ht, hi, hz, hs1, hb1, hz1⟩ := hT
  cases m with
  | zero =>
    have hl2 : l2 = [] := List.length_eq_zero_iff.1 hm
    subst hl2
    obtain ⟨A, d, rfl, hd, _⟩ := hown.cells hen
    have hrun := run_app_zero (P := P) (w := w) ht hi o.type A X l.length d c hd
    unfold Oper.wp execOp
    simp only [ho, resolve, invoke, builtin, Sem.run_bind, Sem.run_pure, Result.andThen_ok, List.map_toArray, List.map_cons, List.map_nil, hs, hx, hrun]
    exact h _ w (by simpa using hown) (Below.refl _ _) ⟨rfl, rfl, rfl, Nat.le_refl _, fun _ _ _ => rfl⟩
  | succ m =>
    obtain ⟨b, off, rfl, -⟩ := hc.at (k := 0) (by omega)
    have hmul : (l.length + (m + 1)) * bytes ≤ 1000000000 * 1000 := Nat.mul_le_mul hlen hby
    have key := run_append_two (P := P) (w := w) base t o.type e i z sz bytes ht hi hz hs1 hb1 hz1 hsz v l.length (l.flatMap enc) hown ⟨b, off, none⟩ (m + 1) c (l2.flatMap enc) (by rw [flat_len hen, hm]) ?_ ?_ (by omega) (by unfold maxLen; omega) (by omega) hbase
    · rcases key with ⟨g', cap, w', hv, hr, h2, h3⟩ | ⟨cap, w', hr, h2, h3⟩
      · unfold Oper.wp execOp
        simp only [ho, resolve, invoke, builtin, Sem.run_bind, Sem.run_pure, Result.andThen_ok, List.map_toArray, List.map_cons, List.map_nil, hs, hx, hr]
        have hg : w.grownBy w' v.ownBlock := by rw [hv]; exact h3
        refine h _ _ ?_ ((Below.refl base w).grown hg hbase (fun k hk => (hown.lt hk).1)) hg
        unfold OwnL
        rw [List.length_append, List.flatMap_append, hm]
        exact h2
      · unfold Oper.wp execOp
        simp only [ho, resolve, invoke, builtin, Sem.run_bind, Sem.run_pure, Result.andThen_ok, List.map_toArray, List.map_cons, List.map_nil, hs, hx, hr]
        have hg : w.grownBy w' v.ownBlock := grown_any h3
        refine h _ _ ?_ ((Below.refl base w).grown hg hbase (fun k hk => (hown.lt hk).1)) hg
        unfold OwnL
        rw [List.length_append, List.flatMap_append, hm]
        exact h2
    · intro j u hj
      obtain ⟨k, r, y, rfl, h2, h3⟩ := flat_get hen l2 j u hj
      obtain ⟨b', off', e', hcc⟩ := hc k y h2
      cases e'
      have := hcc r u h3
      unfold Addr.add
      split
      · rename_i h0; rw [h0] at this; simpa using this
      · simpa using this
    · intro u hu
      obtain ⟨y, hy, hu⟩ := List.mem_flatMap.1 hu
      exact h1c y u hu
end Go.Bs
namespace Go.Dr.Any
open Go.RowKit Go.Bs
theorem Bel.grown {n : Nat} {w w' : World} {row : Option Nat} (h : w.grownBy w' row) (hr : ∀ k, row = some k → n ≤ k) : Bel (from_ n) w w' :=
  ⟨h.os, h.tape, h.output, h.size, fun k hk hm => h.block k hk (fun e => hm (hr k e.symm))⟩
theorem Bel.below {n : Nat} {w w' : World} (h : Below n w w') : Bel (from_ n) w w' := ⟨h.os, h.tape, h.output, h.size, fun k _ hm => h.block k (Nat.lt_of_not_le hm)⟩
end Go.Dr.Any

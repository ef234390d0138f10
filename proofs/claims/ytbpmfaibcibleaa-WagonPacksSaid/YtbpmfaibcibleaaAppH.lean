/- append of a whole row as one operation of a plan. -/
import Derived.Test.YtbpmfaibcibleaaAppG
import Derived.Test.YtbpmfaibcibleaaTooA
namespace Go.Bs
open Go.RowKit Go.Sort Go.Pl
theorem grown_any {w w' : World} {row : Option Nat} (h : w.grownBy w' none) : w.grownBy w' row := ⟨h.os, h.tape, h.output, h.size, fun k hk _ => h.block k hk (by simp)⟩
theorem app_row_op {P : Program} {o : Oper} {a : Act} {K : Act → World → Prop} {Q : Exit → Act → World → Prop} {w : World} {α : Type} (enc : α → List Value) (t e : TypeId) (sz bytes : Nat) (hT : ElemT P t e sz bytes) (hsz : 0 < sz) (hby : bytes ≤ 1000)
    (hen : ∀ x, (enc x).length = sz) (h1c : ∀ x, ∀ u ∈ enc x, u.oneCell' = true) (s x : Operand)
    (ho : o.op = .call { callee := .builtin .append, args := #[s, x], argTypes := #[t, t] }) (base : Nat) (v : Value) (l : List α) (hs : a.eval s = v) (hown : OwnL w base e sz enc v l)
    (X : Option Addr) (m c : Nat) (l2 : List α) (hm : l2.length = m) (hx : a.eval x = .slice X m c) (hc : Cells w X sz enc l2) (hlen : l.length + m ≤ 1000000000) (hbase : base ≤ w.heap.size)
    (h : ∀ v' w', OwnL w' base e sz enc v' (l ++ l2) → Below base w w' → w.grownBy w' v.ownBlock → K (a.put o.dst v') w') : o.wp P a w K Q := by
  obtain ⟨i, z, ht, hi, hz, hs1, hb1, hz1⟩ := hT
  cases m with
  | zero =>
    have hl2 : l2 = [] := List.length_eq_zero_iff.1 hm
    subst hl2
    obtain ⟨A, d, rfl, hd, _⟩ := hown.cells hen
    have hrun := run_app_zero (P := P) (w := w) ht hi o.type A X l.length d c hd
    unfold Oper.wp execOp
    simp only [ho, resolve, invoke, builtin, Sem.run_bind, Sem.run_pure, Result.andThen_ok, List.map_toArray, List.map_cons, List.map_nil, hs, hx, hrun]
    exact h _ w (by simpa using hown) (Below.refl _ _) ⟨rfl, rfl, rfl, Nat.le_refl _, fun _ _ _ => rfl⟩
  | succ m =>
    obtain ⟨b, off, rfl, -⟩ := hc.at (k := 0) (by omega)
    have hmul : (l.length + (m + 1)) * bytes ≤ 1000000000 * 1000 := Nat.mul_le_mul hlen hby
    have key := run_append_two (P := P) (w := w) base t o.type e i z sz bytes ht hi hz hs1 hb1 hz1 hsz v l.length (l.flatMap enc) hown ⟨b, off, none⟩ (m + 1) c (l2.flatMap enc) (by rw [flat_len hen, hm]) ?_ ?_ (by omega) (by unfold maxLen; omega) (by omega) hbase
    · rcases key with ⟨g', cap, w', hv, hr, h2, h3⟩ | ⟨cap, w', hr, h2, h3⟩
      · unfold Oper.wp execOp
        simp only [ho, resolve, invoke, builtin, Sem.run_bind, Sem.run_pure, Result.andThen_ok, List.map_toArray, List.map_cons, List.map_nil, hs, hx, hr]
        have hg : w.grownBy w' v.ownBlock := by rw [hv]; exact h3
        refine h _ _ ?_ ((Below.refl base w).grown hg hbase (fun k hk => (hown.lt hk).1)) hg
        unfold OwnL
        rw [List.length_append, List.flatMap_append, hm]
        exact h2
      · unfold Oper.wp execOp
        simp only [ho, resolve, invoke, builtin, Sem.run_bind, Sem.run_pure, Result.andThen_ok, List.map_toArray, List.map_cons, List.map_nil, hs, hx, hr]
        have hg : w.grownBy w' v.ownBlock := grown_any h3
        refine h _ _ ?_ ((Below.refl base w).grown hg hbase (fun k hk => (hown.lt hk).1)) hg
        unfold OwnL
        rw [List.length_append, List.flatMap_append, hm]
        exact h2
    · intro j u hj
      obtain ⟨k, r, y, rfl, h2, h3⟩ := flat_get hen l2 j u hj
      obtain ⟨b', off', e', hcc⟩ := hc k y h2
      cases e'
      have := hcc r u h3
      unfold Addr.add
      split
      · rename_i h0; rw [h0] at this; simpa using this
      · simpa using this
    · intro u hu
      obtain ⟨y, hy, hu⟩ := List.mem_flatMap.1 hu
      exact h1c y u hu
end Go.Bs
namespace Go.Dr.Any
open Go.RowKit Go.Bs
theorem Bel.grown {n : Nat} {w w' : World} {row : Option Nat} (h : w.grownBy w' row) (hr : ∀ k, row = some k → n ≤ k) : Bel (from_ n) w w' :=
  ⟨h.os, h.tape, h.output, h.size, fun k hk hm => h.block k hk (fun e => hm (hr k e.symm))⟩
theorem Bel.below {n : Nat} {w w' : World} (h : Below n w w') : Bel (from_ n) w w' := ⟨h.os, h.tape, h.output, h.size, fun k _ hm => h.block k (Nat.lt_of_not_le hm)⟩
end Go.Dr.Any

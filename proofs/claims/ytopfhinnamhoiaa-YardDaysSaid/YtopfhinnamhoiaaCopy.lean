/- append of a whole row of ints onto a row of the call's own. -/
import Derived.Test.YtopfhinnamhoiaaOwn
namespace Go.Bs
open Go.RowKit Go.Sort Go.Pl

theorem run_app_zero {P : Program} {w : World} {t e : TypeId} {i : TypeInfo} (ht : P.underlying t = some (.slice e)) (hi : P.info? e = some i) (ty : TypeId) (A X : Option Addr) (n d c : Nat) (hnd : n ≤ d) :
    (Builtin.append_ #[t, t] ty #[.slice A n d, .slice X 0 c]).run P w = .ok (.slice A n d) w := by
  have hl : ∀ a, (loadCells a 0).run P w = .ok #[] w := fun a => by simp [loadCells, loadCellsFrom]
  cases A <;> cases X <;> simp [Builtin.append_, run_underlying ht, sizeOf, typeInfo, hi, Builtin.lenOf, Builtin.firstCells, hnd, hl, storeCells, Result.andThen]
theorem app_ints {P : Program} {ops : Array Oper} {rest : List Oper} {o : Oper} {a : Act} {Q : Exit → Act → World → Prop} {w : World} (t e : TypeId) (hT : ElemT P t e 1 8)
    (hgd : o.guard = none) (s x : Operand)
    (ho : o.op = .call { callee := .builtin .append, args := #[s, x], argTypes := #[t, t] }) (base : Nat) (v : Value) (l : List Int) (hs : a.eval s = v) (hown : OwnL w base e 1 encI v l)
    (X : Option Addr) (m c : Nat) (l2 : List Int) (hm : l2.length = m) (hx : a.eval x = .slice X m c) (hc : Cells w X 1 encI l2) (hlen : l.length + m ≤ 1000000000000) (hbase : base ≤ w.heap.size)
    (h : ∀ v' w', OwnL w' base e 1 encI v' (l ++ l2) → Below base w w' → w.grownBy w' v.ownBlock → ((v' = v ∧ w' = w) ∨ ∃ g cap, v' = .slice (some ⟨g, 0, none⟩) (l.length + m) cap ∧ (v.ownBlock = some g ∨ g = w.heap.size)) → wpList P ops Q rest (a.put o.dst v') w') :
    wpList P ops Q (o :: rest) a w := by
  obtain ⟨i, z, ht, hi, hz, hs1, hb1, hz1⟩ := hT
  cases m with
  | zero =>
    have hl2 : l2 = [] := List.length_eq_zero_iff.1 hm
    subst hl2
    obtain ⟨A, d, rfl, hd, _⟩ := hown.cells encI_len
    have hrun := run_app_zero (P := P) (w := w) ht hi o.type A X l.length d c hd
    refine wpList_plain hgd fun K hK => ?_
    unfold Oper.wp
    simp [execOp, ho, resolve, invoke, builtin, hs, hx, hrun, Result.andThen]
    exact hK _ _ (h _ w (by simpa using hown) (Below.refl _ _) ⟨rfl, rfl, rfl, Nat.le_refl _, fun _ _ _ => rfl⟩ (.inl ⟨rfl, rfl⟩))
  | succ m =>
    obtain ⟨b, off, rfl, -⟩ := hc.at (k := 0) (by omega)
    refine wpList_append_lies w hgd s x t ho base e i z 1 8 ht hi hz hs1 hb1 hz1 (by decide) v l.length (l.flatMap encI) hs hown ⟨b, off, none⟩ (m + 1) c (l2.flatMap encI) hx ?_ ?_ ?_ (by omega) (by unfold maxLen; omega) (by omega) hbase w.heap.size rfl ?_
    · have : ∀ k : List Int, (k.flatMap encI).length = k.length := fun k => by induction k with | nil => rfl | cons y k ih => simp [List.flatMap_cons, ih, encI_len]; omega
      rw [this]; omega
    · have hfm : ∀ k : List Int, k.flatMap encI = k.map (Value.int .i64) := fun k => by induction k with | nil => rfl | cons y k ih => rw [List.flatMap_cons, ih]; rfl
      intro j u hj
      rw [hfm] at hj
      obtain ⟨y, hy, rfl⟩ : ∃ y, l2[j]? = some y ∧ Value.int .i64 y = u := by simpa using hj
      obtain ⟨b', off', e', hcc⟩ := hc j y hy
      cases e'
      have := hcc 0 _ rfl
      unfold Addr.add
      split
      · rename_i h0; subst h0; simpa using this
      · simpa using this
    · intro u hu
      obtain ⟨y, hy, hu⟩ := List.mem_flatMap.1 hu
      exact encI_one y u hu
    · intro g' cap w' hown' hgrow hat hlt
      refine h _ w' ?_ ((Below.refl base w).grown hgrow hbase (fun k hk => (hown.lt hk).1)) hgrow (.inr ⟨g', cap, rfl, hat⟩)
      unfold OwnL
      rw [List.length_append, List.flatMap_append, hm]
      exact hown'
end Go.Bs

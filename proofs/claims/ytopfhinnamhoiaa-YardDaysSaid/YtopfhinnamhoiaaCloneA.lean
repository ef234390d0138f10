/- Walk: slices.Clone, list, ints. -/
import Derived.WalkLawsBesides
import Derived.Test.YtopfhinnamhoiaaPlanA
import Derived.Test.YtopfhinnamhoiaaCopy
namespace Go.Proofs.Ytopfhinnamhoiaa
open Go.RowKit Go.Bs Go.Yd Go.Pl Go.Sort

theorem own_empty (w : World) (T : TypeId) : OwnL (w.alloc (.cells #[] T)) w.heap.size T 1 encI (.slice (some ⟨w.heap.size, 0, none⟩) 0 0) ([] : List Int) :=
  ⟨by simp, .inr ⟨w.heap.size, 0, #[], rfl, Nat.le_refl _, by show (w.heap.push _)[w.heap.size]? = _; rw [Array.getElem?_push, if_pos rfl], Nat.le_refl _, by omega, by simp, by simp⟩⟩

set_option maxRecDepth 100000 in
theorem clone_any (A : Option Addr) (n c : Nat) (l : List Int) (w : World) (hn : l.length = n) (hm : n ≤ 1000000000) (hd : Cells w A 1 encI l) :
    Calls Try.prog 109 #[.slice A n c] w fun e w' => ∃ v, e = .returned v ∧ FreshL w w' 1 encI v l ∧ Below w.heap.size w w' := by
  have q22 : ∀ (w : World) (a : Option Addr) (n c n' c' : Nat), (binOp .eql 24 (.slice a n c) (.slice none n' c')).run Try.prog w = .ok (.bool a.isNone) w := fun w a n c n' c' => Lib.run_eql_slice_nil w _ _ a n c n' c' Try.underlying24
  cases A with
  | none =>
    have hl : l = [] := by
      cases l with
      | nil => rfl
      | cons x l => obtain ⟨b, off, e, _⟩ := hd 0 x rfl; cases e
    subst hl
    go_enter Try.func109, Try.ntmps109
    go_wp2_with fail
    go_ret
    exact ⟨_, rfl, FreshL.nil _ _ _ _, Below.refl _ _⟩
  | some a =>
    have hd1 := hd.ext (ext_alloc w (.cells #[] 3))
    have ho := own_empty w 3
    clear hd
    go_enter Try.func109, Try.ntmps109
    go_wp2_with (at_builtin; refine app_ints 24 3 et24 rfl _ _ rfl w.heap.size _ [] rfl ho (some a) n c l hn rfl hd1 (by simp; omega) (by simp) ?_; intro v' w' hown hb _ _)
    go_ret
    exact ⟨_, rfl, FreshL.of_own hown encI_len (Nat.le_refl _), (ext_alloc _ _).trans hb⟩

theorem list_any (A : Option Addr) (n c : Nat) (l : List Int) (w : World) (hn : l.length = n) (hm : n ≤ 1000000000) (hd : Cells w A 1 encI l) :
    Calls Try.prog 19 #[.slice A n c] w fun e w' => ∃ v, e = .returned v ∧ FreshL w w' 1 encI v l ∧ Below w.heap.size w w' := by
  have hd1 := hd.ext (ext_alloc w (.cells #[] 3))
  have ho := own_empty w 3
  clear hd
  go_enter Try.func19, Try.ntmps19
  go_wp2_with (at_builtin; refine app_ints 24 3 et24 rfl _ _ rfl w.heap.size _ [] rfl ho A n c l hn rfl hd1 (by simp; omega) (by simp) ?_; intro v' w' hown hb _ _)
  go_ret
  exact ⟨_, rfl, FreshL.of_own hown encI_len (Nat.le_refl _), (ext_alloc _ _).trans hb⟩
end Go.Proofs.Ytopfhinnamhoiaa

/- Small words on buying; a copy of a list that is the call's own. -/
import Derived.Test.YtopfhinnamhoiaaSpecR
import Derived.Test.YtopfhinnamhoiaaPlugsA
namespace Go.Proofs.Ytopfhinnamhoiaa
open Go.RowKit Go.Bs Go.Yd Go.Pl Go.Sort

theorem buyR_none {r : Rd} (h : r.okB = true) (hM : ¬ r.tbl 0 < 1000000000) : buyR r = ([], 0, [], 7) := by unfold buyR; rw [if_pos h, if_neg hM]
theorem buyR_some {r : Rd} (h : r.okB = true) (hM : r.tbl 0 < 1000000000) : buyR r = (natsI r.planN, r.tbl 0, tab (r.days.length + 1) r.tbl, 0) := by unfold buyR; rw [if_pos h, if_pos hM]
theorem list_own (A : Option Addr) (n c : Nat) (l : List Int) (w : World) (hn : l.length = n) (hm : n ≤ 1000000000) (hd : Cells w A 1 encI l) :
    Calls Try.prog 19 #[.slice A n c] w fun e w' => ∃ v, e = .returned v ∧ OwnL w' w.heap.size 3 1 encI v l ∧ Below w.heap.size w w' := by
  have hd1 := hd.ext (ext_alloc w (.cells #[] 3))
  have ho := own_empty w 3
  clear hd
  go_enter Try.func19, Try.ntmps19
  go_wp2_with (at_builtin; refine app_ints 24 3 et24 rfl _ _ rfl w.heap.size _ [] rfl ho A n c l hn rfl hd1 (by simp; omega) (by simp) ?_; intro v' w' hown hb _ _)
  go_ret
  exact ⟨_, rfl, hown, (ext_alloc _ _).trans hb⟩
theorem cells_setAt {w : World} {g : Nat} {l : List Int} (h : Cells w (some ⟨g, 0, none⟩) 1 encI l) {i : Nat} (hi : i < l.length) (v : Int) : Cells (w.setCell ⟨g, i, none⟩ (.int .i64 v)) (some ⟨g, 0, none⟩) 1 encI (l.set i v) := fun k x hk => by
  refine ⟨g, 0, rfl, fun j u hu => ?_⟩
  rcases j with _ | j
  · simp [encI] at hu
    subst hu
    rw [List.getElem?_set] at hk
    by_cases e : i = k
    · subst e
      rw [if_pos rfl, if_pos hi] at hk
      cases hk
      obtain ⟨b, off, e, -, c⟩ := h.at1 hi rfl
      cases e
      rw [Nat.zero_add] at c
      simpa using World.cell?_setCell_same w ⟨g, i, none⟩ (.int .i64 v) c
    · rw [if_neg e] at hk
      obtain ⟨b, off, e', c⟩ := h k x hk
      cases e'
      have := c 0 _ rfl
      rw [World.cell?_setCell_other _ _ _ _ (by simp)]
      exact this
  · simp [encI] at hu

end Go.Proofs.Ytopfhinnamhoiaa

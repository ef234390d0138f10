/- Plain: a thing that is heavier makes the rear axle bear not less. -/
import Derived.Test.YtbpmfaibcibleaaStoA
namespace Go.Wg
open Go.RowKit Go.Bs Go.Pl
theorem momR_mono {ts us : List Th} : ∀ (l : List Int) (a : Int), 0 ≤ a → (∀ x ∈ l, (thAt us x).long = (thAt ts x).long ∧ (thAt ts x).mass ≤ (thAt us x).mass ∧ 0 ≤ (thAt ts x).long) → momR ts l a ≤ momR us l a
  | [], a, _, _ => Int.le_refl _
  | x :: l, a, ha, h => by
    obtain ⟨h1, h2, h3⟩ := h x (by simp)
    have ih := momR_mono l (a + (thAt ts x).long) (by omega) fun y hy => h y (by simp [hy])
    have hm : (thAt ts x).mass * (2 * a + (thAt ts x).long) ≤ (thAt us x).mass * (2 * a + (thAt ts x).long) := Int.mul_le_mul_of_nonneg_right h2 (by omega)
    show (thAt ts x).mass * (2 * a + (thAt ts x).long) + momR ts l (a + (thAt ts x).long) ≤ (thAt us x).mass * (2 * a + (thAt us x).long) + momR us l (a + (thAt us x).long)
    rw [h1]
    generalize (thAt ts x).mass * (2 * a + (thAt ts x).long) = p at *
    generalize (thAt us x).mass * (2 * a + (thAt ts x).long) = q at *
    omega
theorem momL_mono {ts us : List Th} : ∀ (p : List (List Int)), (∀ l ∈ p, ∀ x ∈ l, (thAt us x).long = (thAt ts x).long ∧ (thAt ts x).mass ≤ (thAt us x).mass ∧ 0 ≤ (thAt ts x).long) → momL ts p ≤ momL us p
  | [], _ => Int.le_refl _
  | l :: p, h => by
    have h1 := momR_mono l 0 (by omega) (h l (by simp))
    have h2 := momL_mono p fun k hk => h k (by simp [hk])
    show momR ts l 0 + momL ts p ≤ momR us l 0 + momL us p
    omega
/-- a thing made heavier -/
def heav (t : Th) (y : Int) : Th := ⟨t.long, t.high, min 100000 (t.mass + y), t.need⟩
theorem heav_ok {t : Th} {y : Int} (h : t.Ok) (hy : 0 ≤ y) : (heav t y).Ok := ⟨h.long, h.high, by have := h.mass; unfold heav; simp only; omega, h.need⟩
theorem heav_le {t : Th} {y : Int} (h : t.Ok) (hy : 0 ≤ y) : t.mass ≤ (heav t y).mass := by have := h.mass; unfold heav; simp only; omega
theorem thAt_set {ts : List Th} {k : Nat} (hk : k < ts.length) {y : Int} (hok : ∀ t ∈ ts, t.Ok) (hy : 0 ≤ y) {x : Int} (h0 : 0 ≤ x) (h1 : x < ts.length) :
    (thAt (ts.set k (heav ts[k] y)) x).long = (thAt ts x).long ∧ (thAt ts x).mass ≤ (thAt (ts.set k (heav ts[k] y)) x).mass ∧ 0 ≤ (thAt ts x).long := by
  obtain ⟨j, rfl⟩ : ∃ j : Nat, x = j := ⟨x.toNat, by omega⟩
  have hj : j < ts.length := by omega
  rw [thAt_eq hj, thAt_eq (by rw [List.length_set]; exact hj)]
  have hl := (hok _ (List.getElem_mem hj)).long
  by_cases e : k = j
  · subst e
    rw [List.getElem_set_self]
    exact ⟨rfl, heav_le (hok _ (List.getElem_mem hj)) hy, by omega⟩
  · rw [List.getElem_set_ne e]
    exact ⟨rfl, Int.le_refl _, by omega⟩
theorem set_ok {ts : List Th} {k : Nat} (hk : k < ts.length) {y : Int} (hok : ∀ t ∈ ts, t.Ok) (hy : 0 ≤ y) : ∀ t ∈ ts.set k (heav ts[k] y), t.Ok := fun t ht => by
  rcases List.mem_or_eq_of_mem_set ht with h | h
  · exact hok t h
  · rw [h]; exact heav_ok (hok _ (List.getElem_mem hk)) hy
theorem axRear_bd {j : Lo} {ts : List Th} {p : List (List Int)} (h0 : checkE j ts = 0) (hr : rightB j ts p = true) : 0 ≤ axRear j ts p ∧ axRear j ts p ≤ 700000000000 := by
  obtain ⟨h1, h2, h3⟩ := checkE_zero.1 h0
  have hR := right_iff.1 hr
  have hm := momL_bd h3 h2 hR.inR
  have h6 := h1.many
  rw [hR.many] at hm
  have hre := h1.rear
  have hem := h1.empty
  have hx0 : 0 ≤ momL ts p + j.rear - 1 := by omega
  have hD0 : 0 ≤ (momL ts p + j.rear - 1) / j.rear := Int.ediv_nonneg hx0 (by omega)
  have hD1 : (momL ts p + j.rear - 1) / j.rear ≤ momL ts p + j.rear - 1 := Int.ediv_le_self _ hx0
  unfold axRear
  generalize (momL ts p + j.rear - 1) / j.rear = D at *
  have : (momL ts p) ≤ 600000000000 := by
    have h7 : j.lanes.length ≤ 6 := h6.2
    generalize momL ts p = M at *
    omega
  omega
/-- what the law Bears asks -/
theorem bears_plain {j : Lo} {ts : List Th} {p : List (List Int)} (h0 : checkE j ts = 0) (hr : rightB j ts p = true) {k : Nat} (hk : k < ts.length) {y : Int} (hy : 0 ≤ y) :
    axVal j (ts.set k (heav ts[k] y)) p = (0, 0, false, 9) ∨ ((axVal j (ts.set k (heav ts[k] y)) p).2.2.2 = 0 ∧ axRear j ts p ≤ (axVal j (ts.set k (heav ts[k] y)) p).2.1) := by
  obtain ⟨h1, h2, h3⟩ := checkE_zero.1 h0
  have h4 : checkE j (ts.set k (heav ts[k] y)) = 0 := checkE_zero.2 ⟨h1, by rw [List.length_set]; exact h2, set_ok hk h3 hy⟩
  unfold axVal
  rw [if_neg (not_not_intro h4)]
  by_cases h5 : rightB j (ts.set k (heav ts[k] y)) p = false
  · rw [if_pos h5]; exact .inl rfl
  · rw [if_neg h5]
    refine .inr ⟨rfl, ?_⟩
    show axRear j ts p ≤ axRear j (ts.set k (heav ts[k] y)) p
    have hR := right_iff.1 hr
    have hm := momL_mono (ts := ts) (us := ts.set k (heav ts[k] y)) p fun l hl x hx => thAt_set hk h3 hy ((hR.inR l hl).1 x hx).1 ((hR.inR l hl).1 x hx).2
    have hre := h1.rear
    unfold axRear
    have := Int.ediv_le_ediv (c := j.rear) (by omega) (show momL ts p + j.rear - 1 ≤ momL (ts.set k (heav ts[k] y)) p + j.rear - 1 by omega)
    omega
end Go.Wg

/- Policies: what the law of cover says of what they pay. -/
import Derived.Test.YtnjdlhhgnamigaaSetQ
namespace Go.Pu
open Go.Pl

structure Pol.ok (p : Pol) : Prop where
  le : 0 ≤ p.least ∧ p.least ≤ 1000000000000
  pa : 0 ≤ p.part ∧ p.part ≤ 1000
  mo : 0 ≤ p.most ∧ p.most ≤ 1000000000000
theorem Pol.okB_iff (p : Pol) : p.okB = true ↔ p.ok := by
  unfold Pol.okB
  simp only [Bool.and_eq_true, decide_eq_true_eq]
  exact ⟨fun h => ⟨h.1, h.2.1, h.2.2⟩, fun h => ⟨h.le, h.pa, h.mo⟩⟩
theorem lossB_iff (l : List Int) : lossB l = true ↔ ∀ n ∈ l, 0 ≤ n ∧ n ≤ 1000000000000 := by simp [lossB]
theorem Pol.ok.due {p : Pol} (h : p.ok) {n : Int} (hn : 0 ≤ n) : 0 ≤ p.due n ∧ p.due n ≤ n := by
  have h1 : 0 ≤ max 0 (n - p.least) * p.part := Int.mul_nonneg (by omega) h.pa.1
  have h2 : max 0 (n - p.least) * p.part ≤ max 0 (n - p.least) * 1000 := Int.mul_le_mul_of_nonneg_left h.pa.2 (by omega)
  have h3 := h.le
  unfold Pol.due
  omega
theorem pays_take (p : Pol) : ∀ (l : List Int) (left : Int) (k : Nat), (p.pays left l).take k = p.pays left (l.take k)
  | [], _, k => by cases k <;> rfl
  | n :: l, left, 0 => rfl
  | n :: l, left, k + 1 => by
    simp only [Pol.pays, List.take_succ_cons]
    rw [pays_take p l _ k]
theorem pays_sum (p : Pol) : ∀ (l : List Int) (left : Int), 0 ≤ left → (∀ n ∈ l, 0 ≤ p.due n) → isum (p.pays left l) = min left (isum (l.map p.due))
  | [], left, h, _ => by simp [Pol.pays, isum]; omega
  | n :: l, left, h, hd => by
    have h1 := hd n (by simp)
    have h2 := pays_sum p l (left - min left (p.due n)) (by omega) (fun m hm => hd m (by simp [hm]))
    have h3 := isum_nonneg (l := l.map p.due) (fun y hy => by obtain ⟨x, hx, rfl⟩ := List.mem_map.1 hy; exact hd x (by simp [hx]))
    simp only [Pol.pays, isum, List.map_cons]
    omega
theorem pays_each (p : Pol) : ∀ (l : List Int) (left : Int), 0 ≤ left → (∀ n ∈ l, 0 ≤ p.due n ∧ p.due n ≤ n) → ∀ i, i < l.length → 0 ≤ (p.pays left l).getD i 0 ∧ (p.pays left l).getD i 0 ≤ l.getD i 0
  | [], _, _, _, i, hi => absurd hi (by simp)
  | n :: l, left, h, hd, 0, _ => by
    have := hd n (by simp)
    simp only [Pol.pays, List.getD_cons_zero]
    omega
  | n :: l, left, h, hd, i + 1, hi => by
    have := hd n (by simp)
    simp only [Pol.pays, List.getD_cons_succ]
    exact pays_each p l _ (by omega) (fun m hm => hd m (by simp [hm])) i (by simpa using hi)
theorem Pol.ok.sums {p : Pol} (h : p.ok) {l : List Int} (hl : ∀ n ∈ l, 0 ≤ n ∧ n ≤ 1000000000000) (k : Nat) : isum ((p.pays p.most l).take k) = min p.most (isum ((l.take k).map p.due)) ∧ 0 ≤ isum ((l.take k).map p.due) := by
  have hd : ∀ n ∈ l.take k, 0 ≤ p.due n := fun n hn => (h.due (hl n (List.mem_of_mem_take hn)).1).1
  rw [pays_take, pays_sum p _ _ h.mo.1 hd]
  exact ⟨rfl, isum_nonneg (fun y hy => by obtain ⟨x, hx, rfl⟩ := List.mem_map.1 hy; exact hd x hx)⟩
/-- a policy that covers more -/
def Pol.wider (p : Pol) (most least : Int) : Pol := ⟨max 0 (p.least - least), p.part, min 1000000000000 (p.most + most)⟩
theorem Pol.ok.wider {p : Pol} (h : p.ok) {m l : Int} (hm : 0 ≤ m) (hl : 0 ≤ l) : (p.wider m l).ok := ⟨by have := h.le; simp only [Pol.wider]; omega, h.pa, by have := h.mo; simp only [Pol.wider]; omega⟩
theorem Pol.ok.due_le {p : Pol} (h : p.ok) {m l : Int} (hl : 0 ≤ l) (n : Int) : p.due n ≤ (p.wider m l).due n := by
  have h1 : max 0 (n - p.least) * p.part ≤ max 0 (n - max 0 (p.least - l)) * p.part := Int.mul_le_mul_of_nonneg_right (by have := h.le; omega) h.pa.1
  show max 0 (n - p.least) * p.part / 1000 ≤ max 0 (n - max 0 (p.least - l)) * p.part / 1000
  omega
theorem Pol.ok.cover {p : Pol} (h : p.ok) {m l : Int} (hm : 0 ≤ m) (hl : 0 ≤ l) {L : List Int} (hL : ∀ n ∈ L, 0 ≤ n ∧ n ≤ 1000000000000) (k : Nat) :
    (0 ≤ isum ((p.pays p.most L).take k) ∧ isum ((p.pays p.most L).take k) ≤ p.most) ∧ isum ((p.pays p.most L).take k) ≤ isum (((p.wider m l).pays (p.wider m l).most L).take k) ∧ isum (((p.wider m l).pays (p.wider m l).most L).take k) ≤ 1000000000000 := by
  have h1 := h.sums hL k
  have h2 := (h.wider hm hl).sums hL k
  have h3 := isum_le_isum (f := p.due) (g := (p.wider m l).due) (L.take k) (fun x _ => h.due_le hl x)
  have h4 := h.mo
  have h5 : p.most ≤ (p.wider m l).most := by show _ ≤ min 1000000000000 (p.most + m); omega
  have h6 : (p.wider m l).most ≤ 1000000000000 := by show min 1000000000000 (p.most + m) ≤ _; omega
  omega
end Go.Pu

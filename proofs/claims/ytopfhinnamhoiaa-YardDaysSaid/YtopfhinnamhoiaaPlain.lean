/- Plain lemmas on lists and numbers. -/
namespace Go.Pl
def isum : List Int → Int
  | [] => 0
  | x :: r => x + isum r
theorem isum_append (a b : List Int) : isum (a ++ b) = isum a + isum b := by
  induction a with
  | nil => simp [isum]
  | cons x a ih => simp only [List.cons_append, isum, ih]; omega
theorem isum_nonneg {l : List Int} (h : ∀ x ∈ l, 0 ≤ x) : 0 ≤ isum l := by
  induction l with
  | nil => simp [isum]
  | cons x l ih => have := h x (by simp); have := ih (fun y hy => h y (by simp [hy])); simp only [isum]; omega
theorem isum_le {l : List Int} {m : Int} (h : ∀ x ∈ l, x ≤ m) : isum l ≤ l.length * m := by
  induction l with
  | nil => simp [isum]
  | cons x l ih =>
    have := h x (by simp)
    have := ih (fun y hy => h y (by simp [hy]))
    simp only [isum, List.length_cons]
    rw [show ((l.length + 1 : Nat) : Int) * m = l.length * m + m by rw [Int.natCast_add, Int.add_mul]; simp]
    omega
theorem isum_map_take_succ {α : Type} (f : α → Int) (l : List α) (k : Nat) (h : k < l.length) : isum ((l.take (k + 1)).map f) = isum ((l.take k).map f) + f l[k] := by
  rw [List.take_succ_eq_append_getElem h, List.map_append, isum_append]
  simp [isum]
theorem isum_map_bd {α : Type} (f : α → Int) (l : List α) (m : Int) (h : ∀ x ∈ l, 0 ≤ f x ∧ f x ≤ m) : 0 ≤ isum (l.map f) ∧ isum (l.map f) ≤ l.length * m := by
  constructor
  · exact isum_nonneg (fun y hy => by obtain ⟨x, hx, rfl⟩ := List.mem_map.1 hy; exact (h x hx).1)
  · have := isum_le (l := l.map f) (m := m) (fun y hy => by obtain ⟨x, hx, rfl⟩ := List.mem_map.1 hy; exact (h x hx).2)
    simpa using this
theorem mul_bd {a b m n : Int} (h1 : 0 ≤ a) (h2 : a ≤ m) (h3 : 0 ≤ b) (h4 : b ≤ n) : 0 ≤ a * b ∧ a * b ≤ m * n :=
  ⟨Int.mul_nonneg h1 h3, Int.mul_le_mul h2 h4 h3 (Int.le_trans h1 h2)⟩
/-- The values of f at 0 .. n-1. -/
def tab (n : Nat) (f : Nat → Int) : List Int := (List.range n).map f
def upd (f : Nat → Int) (k : Nat) (v : Int) : Nat → Int := fun i => if i = k then v else f i
theorem tab_len (n : Nat) (f : Nat → Int) : (tab n f).length = n := by simp [tab]
theorem tab_get {n : Nat} (f : Nat → Int) {i : Nat} (h : i < n) : (tab n f)[i]? = some (f i) := by simp [tab, h]
theorem tab_set (n : Nat) (f : Nat → Int) (k : Nat) (v : Int) : (tab n f).set k v = tab n (upd f k v) := by
  apply List.ext_getElem?
  intro i
  rw [List.getElem?_set]
  by_cases hi : i < n
  · rw [tab_get _ hi, tab_get _ hi, tab_len]
    by_cases e : k = i
    · subst e; simp [hi, upd]
    · rw [if_neg e]; simp [upd, Ne.symm e]
  · rw [List.getElem?_eq_none (by rw [tab_len]; omega), List.getElem?_eq_none (by rw [tab_len]; omega)]
    split
    · rw [if_neg (by rw [tab_len]; omega)]
    · rfl
theorem upd_self (f : Nat → Int) (k : Nat) (v : Int) : upd f k v k = v := by simp [upd]
theorem upd_ne (f : Nat → Int) {k i : Nat} (v : Int) (h : i ≠ k) : upd f k v i = f i := by simp [upd, h]
theorem upd_upd (f : Nat → Int) (k : Nat) (u v : Int) : upd (upd f k u) k v = upd f k v := by funext i; simp only [upd]; split <;> rfl
theorem tab_zero (n : Nat) : tab n (fun _ => 0) = List.replicate n 0 := by
  apply List.ext_getElem?
  intro i
  by_cases hi : i < n
  · rw [tab_get _ hi]; simp [hi]
  · rw [List.getElem?_eq_none (by rw [tab_len]; omega), List.getElem?_eq_none (by simp; omega)]

end Go.Pl

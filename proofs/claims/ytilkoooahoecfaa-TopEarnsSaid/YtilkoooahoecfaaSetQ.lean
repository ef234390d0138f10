/- Weeks: bounds of what they pay. -/
import Derived.Test.YtilkoooahoecfaaPlnA
namespace Go.Pu
open Go.Pl

structure Cty.ok (c : Cty) : Prop where
  tk : 0 ≤ c.takings ∧ c.takings ≤ 1000000000000
  nu : 1 ≤ c.num ∧ c.num ≤ 1000
  de : 1 ≤ c.den ∧ c.den ≤ 1000
  tx : 0 ≤ c.tax ∧ c.tax ≤ 1000
structure Ctr.ok (c : Ctr) : Prop where
  rk : 0 ≤ c.rank ∧ c.rank ≤ 100
  wg : 0 ≤ c.wage ∧ c.wage ≤ 1000000000000
  sh : 0 ≤ c.share ∧ c.share ≤ 1000
structure Wk.ok (w : Wk) : Prop where
  n : 1 ≤ w.ctys.length ∧ w.ctys.length ≤ 8
  yok : ∀ c ∈ w.ctys, c.ok
  pr : 0 ≤ w.premium ∧ w.premium ≤ 1000000000000
  m : w.ctrs.length ≤ 20
  cok : ∀ c ∈ w.ctrs, c.ok
  sum : isum (w.ctrs.map Ctr.share) ≤ 1000
theorem ctyB_iff (c : Cty) : ctyB c = true ↔ c.ok := by
  unfold ctyB
  simp only [Bool.and_eq_true, decide_eq_true_eq]
  exact ⟨fun h => ⟨h.1, h.2.1, h.2.2.1, h.2.2.2⟩, fun h => ⟨h.tk, h.nu, h.de, h.tx⟩⟩
theorem ctrB_iff (c : Ctr) : ctrB c = true ↔ c.ok := by
  unfold ctrB
  simp only [Bool.and_eq_true, decide_eq_true_eq]
  exact ⟨fun h => ⟨h.1, h.2.1, h.2.2⟩, fun h => ⟨h.rk, h.wg, h.sh⟩⟩
theorem Wk.okB_iff (w : Wk) : w.okB = true ↔ w.ok := by
  unfold Wk.okB
  simp only [Bool.and_eq_true, decide_eq_true_eq, List.all_eq_true]
  exact ⟨fun h => ⟨h.1, fun c hc => (ctyB_iff c).1 (h.2.1 c hc), h.2.2.1, h.2.2.2.1, fun c hc => (ctrB_iff c).1 (h.2.2.2.2.1 c hc), h.2.2.2.2.2⟩,
    fun h => ⟨h.n, fun c hc => (ctyB_iff c).2 (h.yok c hc), h.pr, h.m, fun c hc => (ctrB_iff c).2 (h.cok c hc), h.sum⟩⟩
theorem Cty.ok.raw {c : Cty} (h : c.ok) : 0 ≤ c.takings * c.num ∧ c.takings * c.num ≤ 1000000000000000 := by
  have := mul_bd h.tk.1 h.tk.2 (by have := h.nu; omega) h.nu.2
  omega
theorem div_bd {a d m : Int} (h0 : 0 ≤ a) (h1 : a ≤ m) (hd : 1 ≤ d) : 0 ≤ a / d ∧ a / d ≤ m :=
  ⟨Int.ediv_nonneg h0 (by omega), Int.le_trans (Int.ediv_le_self d h0) h1⟩
theorem Cty.ok.gross {c : Cty} (h : c.ok) : 0 ≤ c.gross ∧ c.gross ≤ 1000000000000000 := div_bd h.raw.1 h.raw.2 h.de.1
theorem Cty.ok.raw2 {c : Cty} (h : c.ok) : 0 ≤ c.gross * c.tax ∧ c.gross * c.tax ≤ 1000000000000000000 ∧ c.gross * c.tax ≤ c.gross * 1000 := by
  have h1 := mul_bd h.gross.1 h.gross.2 h.tx.1 h.tx.2
  exact ⟨h1.1, by omega, Int.mul_le_mul_of_nonneg_left h.tx.2 h.gross.1⟩
theorem Cty.ok.taxes {c : Cty} (h : c.ok) : 0 ≤ c.taxes ∧ c.taxes ≤ c.gross := by
  have h1 := h.raw2
  unfold Cty.taxes
  omega
theorem isum_le_isum {α : Type} {f g : α → Int} : ∀ (l : List α), (∀ x ∈ l, f x ≤ g x) → isum (l.map f) ≤ isum (l.map g)
  | [], _ => Int.le_refl _
  | x :: l, h => by
    have := h x (by simp)
    have := isum_le_isum l (fun y hy => h y (by simp [hy]))
    simp only [List.map_cons, isum]
    omega
theorem Wk.ok.sums {w : Wk} (h : w.ok) : (0 ≤ isum (w.ctys.map Cty.gross) ∧ isum (w.ctys.map Cty.gross) ≤ 8000000000000000) ∧ 0 ≤ isum (w.ctys.map Cty.taxes) ∧ isum (w.ctys.map Cty.taxes) ≤ isum (w.ctys.map Cty.gross) := by
  have h1 := isum_map_bd Cty.gross w.ctys 1000000000000000 (fun x hx => (h.yok x hx).gross)
  have h2 := isum_nonneg (l := w.ctys.map Cty.taxes) (fun y hy => by obtain ⟨x, hx, rfl⟩ := List.mem_map.1 hy; exact (h.yok x hx).taxes.1)
  have h3 := isum_le_isum (f := Cty.taxes) (g := Cty.gross) w.ctys (fun x hx => (h.yok x hx).taxes.2)
  have := h.n
  refine ⟨⟨h1.1, ?_⟩, h2, h3⟩
  have : (w.ctys.length : Int) * 1000000000000000 ≤ 8 * 1000000000000000 := Int.mul_le_mul_of_nonneg_right (by omega) (by omega)
  omega
theorem Wk.ok.pot {w : Wk} (h : w.ok) : 0 ≤ w.pot ∧ w.pot ≤ 8000000000000000 := by
  have := h.sums
  unfold Wk.pot
  omega
theorem Wk.ok.prem {w : Wk} (h : w.ok) : 0 ≤ w.prem ∧ w.prem ≤ w.pot ∧ w.prem ≤ w.premium := by
  have := h.pot
  have := h.pr
  unfold Wk.prem
  omega
theorem Wk.ok.ctrs {w : Wk} (h : w.ok) {i : Nat} (hi : i < w.ctrs.length) : (ctr w i).ok := by
  have : ctr w i = w.ctrs[i] := by simp [Go.Pu.ctr, hi]
  rw [this]
  exact h.cok _ (List.getElem_mem _)
theorem Wk.order_lt (w : Wk) : ∀ i ∈ w.order, i < w.ctrs.length := by
  intro i hi
  unfold Wk.order at hi
  obtain ⟨x, hx, rfl⟩ := List.mem_map.1 hi
  have := rank_mem.1 hx
  omega
theorem Wk.order_len (w : Wk) : w.order.length = w.ctrs.length := by unfold Wk.order; rw [List.length_map, rank_len]
theorem Wk.paidTo_succ (w : Wk) {k : Nat} (hk : k < w.order.length) : w.paidTo (k + 1) = payOne w (w.paidTo k) w.order[k] := by
  unfold Wk.paidTo
  rw [List.take_succ_eq_append_getElem hk, List.foldl_append]
  rfl
theorem Wk.ok.paidTo_bd {w : Wk} (h : w.ok) : ∀ k, k ≤ w.order.length → (0 ≤ (w.paidTo k).1 ∧ (w.paidTo k).1 ≤ 8000000000000000) ∧ ∀ i, 0 ≤ (w.paidTo k).2 i ∧ (w.paidTo k).2 i ≤ 1000000000000
  | 0, _ => by
    have := h.pot
    have := h.prem
    unfold Wk.paidTo
    simp only [List.take_zero, List.foldl_nil]
    exact ⟨by omega, fun i => by omega⟩
  | k + 1, hk => by
    obtain ⟨h1, h2⟩ := paidTo_bd h k (by omega)
    rw [w.paidTo_succ (by omega)]
    have hw := (h.ctrs (w.order_lt _ (List.getElem_mem (by omega : k < w.order.length)))).wg
    unfold payOne
    refine ⟨by simp only; omega, fun i => ?_⟩
    simp only [upd]
    split
    · omega
    · exact h2 i
theorem Wk.ok.left {w : Wk} (h : w.ok) : 0 ≤ w.left ∧ w.left ≤ 8000000000000000 := (h.paidTo_bd w.ctrs.length (by rw [w.order_len]; omega)).1
theorem Wk.ok.extra {w : Wk} (h : w.ok) {i : Nat} (hi : i < w.ctrs.length) : (0 ≤ w.left * (ctr w i).share ∧ w.left * (ctr w i).share ≤ 8000000000000000000) ∧ 0 ≤ w.extra i ∧ w.extra i ≤ 8000000000000000 := by
  have h1 := h.left
  have h2 := (h.ctrs hi).sh
  have h3 := mul_bd h1.1 h1.2 h2.1 h2.2
  have h4 : w.left * (ctr w i).share ≤ w.left * 1000 := Int.mul_le_mul_of_nonneg_left h2.2 h1.1
  unfold Wk.extra
  omega
/-- f below k, behind it zeros -/
def parN (n : Nat) (f : Nat → Int) (k : Nat) : List Int := tab n fun i => if i < k then f i else 0
theorem parN_zero (n : Nat) (f : Nat → Int) : parN n f 0 = tab n fun _ => 0 := by unfold parN; congr 1
theorem parN_set (n : Nat) (f : Nat → Int) (k : Nat) : (parN n f k).set k (f k) = parN n f (k + 1) := by
  unfold parN
  rw [tab_set]
  congr 1
  funext i
  unfold upd
  by_cases h : i = k
  · subst h; simp
  · rw [if_neg h]
    show (if i < k then f i else 0) = _
    by_cases h2 : i < k
    · rw [if_pos h2, if_pos (by omega)]
    · rw [if_neg h2, if_neg (by omega)]
theorem tab_congr {n : Nat} {f g : Nat → Int} (h : ∀ i, i < n → f i = g i) : tab n f = tab n g := by
  unfold tab
  exact List.map_congr_left (fun i hi => h i (List.mem_range.1 hi))
theorem parN_full (n : Nat) (f : Nat → Int) : parN n f n = tab n f := tab_congr (fun i hi => by rw [if_pos hi])
theorem parN_get {n k : Nat} (f : Nat → Int) (h : k < n) : (parN n f k)[k]? = some 0 := by
  unfold parN
  rw [tab_get _ h, if_neg (by omega)]
theorem Wk.order_mem (w : Wk) {i : Nat} (hi : i < w.ctrs.length) : i ∈ w.order := by
  unfold Wk.order
  exact List.mem_map.2 ⟨(i : Int), rank_mem.2 (by omega), by simp⟩
theorem mem_tab {n : Nat} {f : Nat → Int} {y : Int} (h : y ∈ tab n f) : ∃ i, i < n ∧ y = f i := by
  unfold tab at h
  obtain ⟨i, hi, rfl⟩ := List.mem_map.1 h
  exact ⟨i, List.mem_range.1 hi, rfl⟩
end Go.Pu

/- Weeks: what the laws say of what they pay. -/
import Derived.Test.YtnjdlhhgnamigaaSetR
namespace Go.Pu
open Go.Pl

theorem tab_snoc (n : Nat) (f : Nat → Int) : tab (n + 1) f = tab n f ++ [f n] := by simp [tab, List.range_succ]
theorem isum_tab_snoc (n : Nat) (f : Nat → Int) : isum (tab (n + 1) f) = isum (tab n f) + f n := by rw [tab_snoc, isum_append]; simp [isum]
theorem isum_tab_mono {f g : Nat → Int} : ∀ n, (∀ i, i < n → f i ≤ g i) → isum (tab n f) ≤ isum (tab n g)
  | 0, _ => by simp [tab, isum]
  | n + 1, h => by
    rw [isum_tab_snoc, isum_tab_snoc]
    have := isum_tab_mono n (fun i hi => h i (by omega))
    have := h n (by omega)
    omega
theorem isum_tab_add (f g : Nat → Int) : ∀ n, isum (tab n fun i => f i + g i) = isum (tab n f) + isum (tab n g)
  | 0 => by simp [tab, isum]
  | n + 1 => by
    rw [isum_tab_snoc, isum_tab_snoc, isum_tab_snoc, isum_tab_add f g n]; omega
theorem isum_tab_zero : ∀ n, isum (tab n fun _ => 0) = 0
  | 0 => by simp [tab, isum]
  | n + 1 => by rw [isum_tab_snoc, isum_tab_zero n]; omega
theorem isum_tab_upd (f : Nat → Int) (k : Nat) (v : Int) : ∀ n, k < n → isum (tab n (upd f k v)) = isum (tab n f) + (v - f k)
  | 0, h => absurd h (by omega)
  | n + 1, h => by
    rw [isum_tab_snoc, isum_tab_snoc]
    by_cases e : k = n
    · subst e
      rw [upd_self, tab_congr (g := f) (fun i hi => upd_ne f v (by omega))]
      omega
    · rw [isum_tab_upd f k v n (by omega), upd_ne f v (by omega)]
      omega
theorem tab_map {α : Type} (l : List α) (f : α → Int) (d : α) : l.map f = tab l.length fun i => f (l.getD i d) := by
  apply List.ext_getElem?
  intro i
  by_cases hi : i < l.length
  · rw [tab_get _ hi]; simp [hi]
  · rw [List.getElem?_eq_none (by simpa using hi), List.getElem?_eq_none (by rw [tab_len]; omega)]

/-! paying along a list -/
theorem pay_not (w : Wk) : ∀ (l : List Nat) (a : Int × (Nat → Int)) (i : Nat), i ∉ l → (l.foldl (payOne w) a).2 i = a.2 i
  | [], _, _, _ => rfl
  | x :: l, a, i, h => by
    rw [List.foldl_cons, pay_not w l _ i (fun hm => h (by simp [hm]))]
    exact upd_ne _ _ (fun e => h (by simp [e]))
theorem pay_pos (w : Wk) : ∀ (l : List Nat) (a : Int × (Nat → Int)), 0 ≤ a.1 → (∀ i ∈ l, 0 ≤ (ctr w i).wage) → 0 ≤ (l.foldl (payOne w) a).1 ∧ (l.foldl (payOne w) a).1 ≤ a.1
  | [], _, h, _ => ⟨h, Int.le_refl _⟩
  | x :: l, a, h, hw => by
    have h1 := hw x (by simp)
    have h2 := pay_pos w l (payOne w a x) (by simp only [payOne]; omega) (fun i hi => hw i (by simp [hi]))
    rw [List.foldl_cons]
    refine ⟨h2.1, Int.le_trans h2.2 ?_⟩
    simp only [payOne]; omega
/-- the wage is paid, or nothing is left -/
theorem pay_in (w : Wk) : ∀ (l : List Nat) (a : Int × (Nat → Int)), 0 ≤ a.1 → (∀ i ∈ l, 0 ≤ (ctr w i).wage) → l.Nodup →
    ∀ i ∈ l, (0 ≤ (l.foldl (payOne w) a).2 i ∧ (l.foldl (payOne w) a).2 i ≤ (ctr w i).wage) ∧ (0 < (ctr w i).wage - (l.foldl (payOne w) a).2 i → (l.foldl (payOne w) a).1 = 0)
  | [], _, _, _, _, _, hi => by simp at hi
  | x :: l, a, h, hw, hn, i, hi => by
    have h1 := hw x (by simp)
    have hn' := List.nodup_cons.1 hn
    have h0 : 0 ≤ (payOne w a x).1 := by simp only [payOne]; omega
    rw [List.foldl_cons]
    rcases List.mem_cons.1 hi with rfl | hi
    · have e := pay_not w l (payOne w a i) i hn'.1
      have e2 : (payOne w a i).2 i = min a.1 (ctr w i).wage := upd_self _ _ _
      rw [e, e2]
      refine ⟨by omega, fun hs => ?_⟩
      have h3 := pay_pos w l (payOne w a i) h0 (fun i hi => hw i (by simp [hi]))
      have : (payOne w a i).1 = 0 := by simp only [payOne]; omega
      omega
    · exact pay_in w l _ h0 (fun i hi => hw i (by simp [hi])) hn'.2 i hi
theorem pay_zero (w : Wk) (l : List Nat) (a : Int × (Nat → Int)) (h : a.1 = 0) (hw : ∀ i ∈ l, 0 ≤ (ctr w i).wage) (hz : ∀ i, a.2 i = 0) : ∀ i, (l.foldl (payOne w) a).2 i = 0 := by
  induction l generalizing a with
  | nil => exact hz
  | cons x l ih =>
    rw [List.foldl_cons]
    have h1 := hw x (by simp)
    refine ih _ (by simp only [payOne]; omega) (fun i hi => hw i (by simp [hi])) (fun i => ?_)
    simp only [payOne, upd]
    split
    · omega
    · exact hz i
/-- who comes behind one that is short gets nothing -/
theorem pay_after (w : Wk) (l1 l2 : List Nat) (i : Nat) (a : Int × (Nat → Int)) (h : 0 ≤ a.1) (hw : ∀ j ∈ l1 ++ i :: l2, 0 ≤ (ctr w j).wage) (hn : (l1 ++ i :: l2).Nodup) (hz : ∀ j, a.2 j = 0)
    (hs : 0 < (ctr w i).wage - ((l1 ++ i :: l2).foldl (payOne w) a).2 i) : ∀ k ∈ l2, ((l1 ++ i :: l2).foldl (payOne w) a).2 k = 0 := by
  intro k hk
  rw [List.foldl_append, List.foldl_cons] at hs ⊢
  have hn2 := List.nodup_append.1 hn
  have hn3 := List.nodup_cons.1 hn2.2.1
  have hb := pay_pos w l1 a h (fun j hj => hw j (by simp [hj]))
  have hk1 : k ∉ l1 := fun hm => hn2.2.2 k hm k (by simp [hk]) rfl
  have hki : k ≠ i := fun e => hn3.1 (e ▸ hk)
  have h0 : (l1.foldl (payOne w) a).2 k = 0 := by rw [pay_not w l1 a k hk1]; exact hz k
  generalize l1.foldl (payOne w) a = b at *
  rw [pay_not w l2 _ i hn3.1] at hs
  have e2 : (payOne w b i).2 i = min b.1 (ctr w i).wage := upd_self _ _ _
  rw [e2] at hs
  have hz1 : (payOne w b i).1 = 0 := by have := hw i (by simp); simp only [payOne]; omega
  have hz2 : (payOne w b i).2 k = 0 := by rw [show (payOne w b i).2 k = b.2 k from upd_ne _ _ hki]; exact h0
  have hw2 : ∀ j ∈ l2, 0 ≤ (ctr w j).wage := fun j hj => hw j (by simp [hj])
  clear hs e2 h0 hb hw
  generalize payOne w b i = c at *
  clear hn hn2 hk hk1
  induction l2 generalizing c with
  | nil => exact hz2
  | cons x l ih =>
    rw [List.foldl_cons]
    have h1 := hw2 x (by simp)
    refine ih ⟨fun h => hn3.1 (by simp [h]), (List.nodup_cons.1 hn3.2).2⟩ (fun j hj => hw2 j (by simp [hj])) _ (by simp only [payOne]; omega) ?_
    simp only [payOne, upd]
    split
    · omega
    · exact hz2
/-- nothing is lost -/
theorem pay_sum (w : Wk) (n : Nat) : ∀ (l : List Nat) (a : Int × (Nat → Int)), (∀ i ∈ l, i < n ∧ a.2 i = 0) → l.Nodup → isum (tab n (l.foldl (payOne w) a).2) + (l.foldl (payOne w) a).1 = isum (tab n a.2) + a.1
  | [], _, _, _ => rfl
  | x :: l, a, h, hn => by
    have hn' := List.nodup_cons.1 hn
    have hx := h x (by simp)
    rw [List.foldl_cons, pay_sum w n l (payOne w a x) (fun i hi => ⟨(h i (by simp [hi])).1, ?_⟩) hn'.2]
    · show isum (tab n (upd a.2 x _)) + (a.1 - _) = _
      rw [isum_tab_upd _ _ _ n hx.1, hx.2]
      omega
    · rw [show (payOne w a x).2 i = a.2 i from upd_ne _ _ (fun e => hn'.1 (e ▸ hi))]
      exact (h i (by simp [hi])).2
/-- more to pay from: nobody is paid less -/
theorem pay_mono (w v : Wk) : ∀ (l : List Nat) (a b : Int × (Nat → Int)), (∀ i ∈ l, (ctr w i).wage = (ctr v i).wage) → a.1 ≤ b.1 → (∀ i, a.2 i ≤ b.2 i) →
    (l.foldl (payOne w) a).1 ≤ (l.foldl (payOne v) b).1 ∧ ∀ i, (l.foldl (payOne w) a).2 i ≤ (l.foldl (payOne v) b).2 i
  | [], _, _, _, h1, h2 => ⟨h1, h2⟩
  | x :: l, a, b, h, h1, h2 => by
    have hx := h x (by simp)
    refine pay_mono w v l (payOne w a x) (payOne v b x) (fun i hi => h i (by simp [hi])) ?_ (fun i => ?_)
    · simp only [payOne]; omega
    · simp only [payOne, upd]
      split
      · omega
      · exact h2 i
theorem pay_same (w v : Wk) (l : List Nat) (a : Int × (Nat → Int)) (h : ∀ i ∈ l, (ctr w i).wage = (ctr v i).wage) : l.foldl (payOne w) a = l.foldl (payOne v) a := by
  induction l generalizing a with
  | nil => rfl
  | cons x l ih =>
    rw [List.foldl_cons, List.foldl_cons, ih _ (fun i hi => h i (by simp [hi]))]
    unfold payOne
    rw [h x (by simp)]
/-! the order -/
theorem Wk.order_nodup (w : Wk) : w.order.Nodup := by
  unfold Wk.order
  refine (List.pairwise_map (f := Int.toNat)).2 ?_
  refine (rank_nodup _ _).imp_of_mem (fun {a b} ha hb hab => ?_)
  have := rank_mem.1 ha
  have := rank_mem.1 hb
  omega
def Wk.bef (w : Wk) (i k : Nat) : Prop := (ctr w i).rank < (ctr w k).rank ∨ ((ctr w i).rank = (ctr w k).rank ∧ i < k)
theorem Wk.order_sorted (w : Wk) : w.order.Pairwise w.bef := by
  unfold Wk.order
  refine (List.pairwise_map (f := Int.toNat)).2 ?_
  refine (rank_spec _ _).2.imp_of_mem (fun {a b} ha hb hab => ?_)
  have := rank_mem.1 ha
  have := rank_mem.1 hb
  unfold Before at hab
  unfold Wk.bef
  simp only at hab
  omega
theorem Wk.order_split (w : Wk) {i k : Nat} (hi : i < w.ctrs.length) (hk : k < w.ctrs.length) (hb : w.bef i k) : ∃ l1 l2, w.order = l1 ++ i :: l2 ∧ k ∈ l2 := by
  obtain ⟨l1, l2, e⟩ := List.append_of_mem (w.order_mem hi)
  refine ⟨l1, l2, e, ?_⟩
  have hkm := w.order_mem hk
  have hs := w.order_sorted
  rw [e] at hkm hs
  have hs2 := List.pairwise_append.1 hs
  rcases List.mem_append.1 hkm with h | h
  · have := hs2.2.2 k h i (by simp)
    unfold Wk.bef at this hb
    omega
  · rcases List.mem_cons.1 h with rfl | h
    · unfold Wk.bef at hb; omega
    · exact h
theorem Wk.paidTo_eq (w : Wk) : w.paidTo w.ctrs.length = w.order.foldl (payOne w) (w.pot - w.prem, fun _ => 0) := by
  unfold Wk.paidTo
  rw [List.take_of_length_le (by rw [w.order_len]; exact Nat.le_refl _)]
theorem Wk.ok.wages {w : Wk} (h : w.ok) : ∀ i ∈ w.order, 0 ≤ (ctr w i).wage := fun i hi => (h.ctrs (w.order_lt i hi)).wg.1
theorem Wk.ok.start {w : Wk} (h : w.ok) : 0 ≤ w.pot - w.prem := by have := h.prem; omega
theorem Wk.ok.paid {w : Wk} (h : w.ok) {i : Nat} (hi : i < w.ctrs.length) : (0 ≤ w.paid i ∧ w.paid i ≤ (ctr w i).wage) ∧ (0 < (ctr w i).wage - w.paid i → w.left = 0) := by
  unfold Wk.paid Wk.left
  rw [w.paidTo_eq]
  exact pay_in w _ _ h.start h.wages w.order_nodup i (w.order_mem hi)
theorem Wk.ok.sum_paid {w : Wk} (_h : w.ok) : isum (tab w.ctrs.length w.paid) + w.left = w.pot - w.prem := by
  unfold Wk.paid Wk.left
  rw [w.paidTo_eq, pay_sum w w.ctrs.length _ _ (fun i hi => ⟨w.order_lt i hi, rfl⟩) w.order_nodup, isum_tab_zero]
  simp
theorem Wk.ok.shares {w : Wk} (h : w.ok) : isum (tab w.ctrs.length fun i => (ctr w i).share) ≤ 1000 := by
  have := h.sum
  rw [tab_map w.ctrs Ctr.share default] at this
  exact this
theorem scale_le (m : Int) (hm : 0 ≤ m) (f : Nat → Int) : ∀ n, isum (tab n fun i => m * f i / 1000) * 1000 ≤ m * isum (tab n f)
  | 0 => by simp [tab, isum]
  | n + 1 => by
    rw [isum_tab_snoc, isum_tab_snoc, Int.mul_add]
    have := scale_le m hm f n
    omega
theorem Wk.ok.rest {w : Wk} (h : w.ok) : 0 ≤ w.settle.rest := by
  show 0 ≤ w.left - isum (tab w.ctrs.length w.extra)
  have h1 := scale_le w.left h.left.1 (fun i => (ctr w i).share) w.ctrs.length
  have h2 := h.shares
  have h3 : w.left * isum (tab w.ctrs.length fun i => (ctr w i).share) ≤ w.left * 1000 := Int.mul_le_mul_of_nonneg_left h2 h.left.1
  have h4 : isum (tab w.ctrs.length w.extra) * 1000 ≤ w.left * isum (tab w.ctrs.length fun i => (ctr w i).share) := h1
  omega
/-- all is given out -/
theorem Wk.ok.all {w : Wk} (h : w.ok) : isum w.settle.gross - isum w.settle.taxes - w.settle.premium - w.settle.rest - isum w.settle.paid - isum w.settle.extra = 0 := by
  have := h.sum_paid
  show isum (w.ctys.map Cty.gross) - isum (w.ctys.map Cty.taxes) - w.prem - (w.left - isum (tab w.ctrs.length w.extra)) - isum (tab w.ctrs.length w.paid) - isum (tab w.ctrs.length w.extra) = 0
  unfold Wk.pot at this
  omega
/-! ranks -/
theorem Wk.ok.lack_paid {w : Wk} (h : w.ok) (hl : 0 < w.premium - w.prem) (i : Nat) : w.paid i = 0 := by
  unfold Wk.paid
  rw [w.paidTo_eq]
  exact pay_zero w _ _ (by have := h.pr; show w.pot - w.prem = 0; unfold Wk.prem at hl ⊢; omega) h.wages (fun _ => rfl) i
theorem Wk.ok.lack_left {w : Wk} (h : w.ok) (hl : 0 < w.premium - w.prem) : w.left = 0 := by
  have h1 := pay_pos w w.order (w.pot - w.prem, fun _ => 0) h.start h.wages
  unfold Wk.left
  rw [w.paidTo_eq]
  have : w.pot - w.prem = 0 := by have := h.pr; unfold Wk.prem at hl ⊢; omega
  simp only [this] at h1 ⊢
  omega
theorem Wk.ok.later {w : Wk} (h : w.ok) {i k : Nat} (hi : i < w.ctrs.length) (hk : k < w.ctrs.length) (hs : 0 < (ctr w i).wage - w.paid i) (hb : w.bef i k) : w.paid k = 0 := by
  obtain ⟨l1, l2, e, hm⟩ := w.order_split hi hk hb
  have hn := w.order_nodup
  have hw := h.wages
  unfold Wk.paid at hs ⊢
  rw [w.paidTo_eq] at hs ⊢
  rw [e] at hs hn hw ⊢
  exact pay_after w l1 l2 i _ h.start hw hn (fun _ => rfl) hs k hm
theorem Wk.none_extra {w : Wk} (h : w.left = 0) (i : Nat) : w.extra i = 0 := by unfold Wk.extra; rw [h]; simp
theorem Wk.none_rest {w : Wk} (h : w.left = 0) : w.settle.rest = 0 := by
  show w.left - isum (tab w.ctrs.length w.extra) = 0
  rw [h, tab_congr (g := fun _ => 0) (fun i _ => Wk.none_extra h i), isum_tab_zero]
  rfl
/-! more takings -/
def Cty.more (c : Cty) (b : Int) : Cty := { c with takings := min 1000000000000 (c.takings + b) }
theorem Cty.ok.more {c : Cty} (h : c.ok) {b : Int} (hb : 0 ≤ b) : (c.more b).ok := ⟨by have := h.tk; simp only [Cty.more]; omega, h.nu, h.de, h.tx⟩
theorem Cty.ok.more_le {c : Cty} (h : c.ok) {b : Int} (hb : 0 ≤ b) : c.gross - c.taxes ≤ (c.more b).gross - (c.more b).taxes := by
  have h1 : c.gross ≤ (c.more b).gross := Int.ediv_le_ediv (by have := h.de; omega) (Int.mul_le_mul_of_nonneg_right (by have := h.tk; simp only [Cty.more]; omega) (by have := h.nu; show 0 ≤ c.num; omega))
  have h2 : (c.more b).taxes = ((c.more b).gross * c.tax + 999) / 1000 := rfl
  have h3 : c.taxes = (c.gross * c.tax + 999) / 1000 := rfl
  have h4 : ((c.more b).gross - c.gross) * c.tax ≤ ((c.more b).gross - c.gross) * 1000 := Int.mul_le_mul_of_nonneg_left h.tx.2 (by omega)
  rw [Int.sub_mul] at h4
  omega
def Wk.more (w : Wk) (k : Nat) (b : Int) : Wk := { w with ctys := w.ctys.set k ((w.ctys.getD k default).more b) }
theorem isum_map_set {α : Type} (f : α → Int) (x d : α) : ∀ (l : List α) (k : Nat), k < l.length → isum ((l.set k x).map f) = isum (l.map f) + (f x - f (l.getD k d))
  | [], k, h => absurd h (by simp)
  | y :: l, 0, _ => by simp [isum]; omega
  | y :: l, k + 1, h => by
    have := isum_map_set f x d l k (by simpa using h)
    simp only [List.set_cons_succ, List.map_cons, isum, List.getD_cons_succ]
    omega
theorem Wk.ok.more {w : Wk} (h : w.ok) {k : Nat} (hk : k < w.ctys.length) {b : Int} (hb : 0 ≤ b) : (w.more k b).ok := by
  refine ⟨by show 1 ≤ (w.ctys.set _ _).length ∧ _; simp only [Wk.more, List.length_set]; exact h.n, fun c hc => ?_, h.pr, h.m, h.cok, h.sum⟩
  rcases List.mem_or_eq_of_mem_set hc with hm | rfl
  · exact h.yok c hm
  · refine Cty.ok.more (h.yok _ ?_) hb
    rw [List.getD_eq_getElem?_getD, List.getElem?_eq_getElem hk]
    exact List.getElem_mem hk
theorem Wk.ok.more_pot {w : Wk} (h : w.ok) {k : Nat} (hk : k < w.ctys.length) {b : Int} (hb : 0 ≤ b) : w.pot ≤ (w.more k b).pot := by
  have hc : (w.ctys.getD k default).ok := h.yok _ (by rw [List.getD_eq_getElem?_getD, List.getElem?_eq_getElem hk]; exact List.getElem_mem hk)
  have h1 := isum_map_set Cty.gross ((w.ctys.getD k default).more b) default w.ctys k hk
  have h2 := isum_map_set Cty.taxes ((w.ctys.getD k default).more b) default w.ctys k hk
  have h3 := hc.more_le hb
  show isum _ - isum _ ≤ isum ((w.ctys.set k _).map Cty.gross) - isum ((w.ctys.set k _).map Cty.taxes)
  rw [h1, h2]
  omega
theorem Wk.more_ctr (w : Wk) (k : Nat) (b : Int) : (w.more k b).ctrs = w.ctrs := rfl
theorem Wk.ok.more_prem {w : Wk} (h : w.ok) {k : Nat} (hk : k < w.ctys.length) {b : Int} (hb : 0 ≤ b) : w.prem ≤ (w.more k b).prem ∧ w.pot - w.prem ≤ (w.more k b).pot - (w.more k b).prem := by
  have := h.more_pot hk hb
  have e : (w.more k b).premium = w.premium := rfl
  unfold Wk.prem
  rw [e]
  omega
theorem Wk.ok.more_paid {w : Wk} (h : w.ok) {k : Nat} (hk : k < w.ctys.length) {b : Int} (hb : 0 ≤ b) : w.left ≤ (w.more k b).left ∧ ∀ i, w.paid i ≤ (w.more k b).paid i := by
  have h1 := pay_mono w (w.more k b) w.order (w.pot - w.prem, fun _ => 0) ((w.more k b).pot - (w.more k b).prem, fun _ => 0) (fun i _ => rfl) (h.more_prem hk hb).2 (fun i => Int.le_refl _)
  unfold Wk.left Wk.paid
  rw [w.paidTo_eq, (w.more k b).paidTo_eq]
  exact h1
theorem Wk.ok.more_extra {w : Wk} (h : w.ok) {k : Nat} (hk : k < w.ctys.length) {b : Int} (hb : 0 ≤ b) {i : Nat} (hi : i < w.ctrs.length) : w.extra i ≤ (w.more k b).extra i := by
  have h1 := (h.more_paid hk hb).1
  have h2 := (h.ctrs hi).sh
  show w.left * (ctr w i).share / 1000 ≤ (w.more k b).left * (ctr w i).share / 1000
  have := Int.mul_le_mul_of_nonneg_right h1 h2.1
  omega
theorem scale_more (m d : Int) (f : Nat → Int) : ∀ n, isum (tab n fun i => (m + d) * f i / 1000) * 1000 ≤ isum (tab n fun i => m * f i / 1000) * 1000 + d * isum (tab n f) + n * 1000
  | 0 => by simp [tab, isum]
  | n + 1 => by
    rw [isum_tab_snoc, isum_tab_snoc, isum_tab_snoc, Int.mul_add]
    have := scale_more m d f n
    have e : (m + d) * f n = m * f n + d * f n := Int.add_mul ..
    simp only [e]
    push_cast
    omega
theorem Wk.ok.more_rest {w : Wk} (h : w.ok) {k : Nat} (hk : k < w.ctys.length) {b : Int} (hb : 0 ≤ b) : w.settle.rest - w.ctrs.length ≤ (w.more k b).settle.rest := by
  have h1 := (h.more_paid hk hb).1
  have h2 := h.shares
  show w.left - isum (tab w.ctrs.length w.extra) - w.ctrs.length ≤ (w.more k b).left - isum (tab w.ctrs.length (w.more k b).extra)
  have h3 := scale_more w.left ((w.more k b).left - w.left) (fun i => (ctr w i).share) w.ctrs.length
  have h4 : ((w.more k b).left - w.left) * isum (tab w.ctrs.length fun i => (ctr w i).share) ≤ ((w.more k b).left - w.left) * 1000 := Int.mul_le_mul_of_nonneg_left h2 (by omega)
  have e1 : (fun i => (w.left + ((w.more k b).left - w.left)) * (ctr w i).share / 1000) = (w.more k b).extra := by
    funext i
    rw [show w.left + ((w.more k b).left - w.left) = (w.more k b).left by omega]
    rfl
  have e2 : (fun i => w.left * (ctr w i).share / 1000) = w.extra := rfl
  rw [e1, e2] at h3
  omega
/-! one contract more -/
def Wk.plus (w : Wk) (c : Ctr) : Wk := { w with ctrs := w.ctrs ++ [c] }
theorem Wk.plus_ctr (w : Wk) (c : Ctr) {i : Nat} (hi : i < w.ctrs.length) : ctr (w.plus c) i = ctr w i := by
  unfold Go.Pu.ctr Wk.plus
  simp [List.getD_eq_getElem?_getD, List.getElem?_append_left hi]
theorem Wk.plus_last (w : Wk) (c : Ctr) : ctr (w.plus c) w.ctrs.length = c := by
  unfold Go.Pu.ctr Wk.plus
  simp [List.getD_eq_getElem?_getD]
theorem Wk.ok.plus_order {w : Wk} (h : w.ok) (c : Ctr) (hc : c.rank = 100) : (w.plus c).order = w.order ++ [w.ctrs.length] := by
  have e : rankL (fun i => (ctr (w.plus c) i.toNat).rank) (w.plus c).ctrs.length = rankL (fun i => (ctr w i.toNat).rank) w.ctrs.length ++ [(w.ctrs.length : Int)] := by
    have hl : (w.plus c).ctrs.length = w.ctrs.length + 1 := by simp [Wk.plus]
    rw [hl]
    refine eq_of_sorted (R := Before (fun i => (ctr (w.plus c) i.toNat).rank)) (fun a b h1 h2 => by unfold Before at h1 h2; omega) _ _ (rank_spec _ _).2 ?_ (fun x => ?_)
    · rw [List.pairwise_append]
      refine ⟨(rank_spec _ _).2.imp_of_mem (fun {a b} ha hb hab => ?_), by simp, fun a ha b hb => ?_⟩
      · have h1 := rank_mem.1 ha
        have h2 := rank_mem.1 hb
        unfold Before at hab ⊢
        simp only at hab ⊢
        rw [w.plus_ctr c (i := a.toNat) (by omega), w.plus_ctr c (i := b.toNat) (by omega)]
        exact hab
      · simp at hb; subst hb
        have h1 := rank_mem.1 ha
        have h2 := (h.ctrs (i := a.toNat) (by omega)).rk
        unfold Before
        simp only
        rw [w.plus_ctr c (i := a.toNat) (by omega), Int.toNat_natCast, w.plus_last c, hc]
        omega
    · rw [List.mem_append, rank_mem, rank_mem]
      simp only [List.mem_singleton]
      omega
  unfold Wk.order
  rw [e, List.map_append]
  rfl
theorem Wk.ok.plus_paid {w : Wk} (h : w.ok) (c : Ctr) (hc : c.rank = 100) {i : Nat} (hi : i < w.ctrs.length) : (w.plus c).paid i = w.paid i := by
  unfold Wk.paid
  rw [w.paidTo_eq, (w.plus c).paidTo_eq, h.plus_order c hc, List.foldl_append]
  show upd _ _ _ i = _
  rw [upd_ne _ _ (by omega)]
  have e : (fun (_ : Nat) => (0 : Int)) = fun _ => 0 := rfl
  show ((w.order.foldl (payOne (w.plus c)) (w.pot - w.prem, fun _ => 0))).2 i = _
  rw [pay_same (w.plus c) w w.order _ (fun j hj => by rw [w.plus_ctr c (w.order_lt j hj)])]
end Go.Pu

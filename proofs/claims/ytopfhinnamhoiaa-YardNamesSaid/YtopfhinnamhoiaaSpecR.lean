/- The least cost of a road, as plain data. -/
import Derived.Test.YtopfhinnamhoiaaRoadY
namespace Go.Proofs.Ytopfhinnamhoiaa
open Go.RowKit Go.Yd Go.Pl Go.Sort Go.Bs

def hdN (r : Rd) (l : List Nat) : Nat := l.headD r.days.length
/-- purchases from a day on, that feed all -/
def Suf (r : Rd) : List Nat → Prop
  | [] => True
  | t :: l => t < r.days.length ∧ (r.day t).opn = true ∧ t < hdN r l ∧ r.feeds t (hdN r l) = true ∧ Suf r l
def sufC (r : Rd) : List Nat → Int
  | [] => 0
  | t :: l => r.price t (hdN r l) + sufC r l
section
variable {r : Rd}
theorem hdN_le : ∀ {l : List Nat}, Suf r l → hdN r l ≤ r.days.length
  | [], _ => Nat.le_refl _
  | _ :: _, h => Nat.le_of_lt h.1
theorem feeds_iff (hok : r.ok) {t s : Nat} (h1 : t ≤ s) (h2 : s ≤ r.days.length) : r.feeds t s = true ↔ ∀ u : Nat, (t : Int) + r.keep ≤ u → u < s → (r.day u).need = 0 := by
  have hk := hok.2.1
  unfold Rd.feeds
  constructor
  · intro h u h3 h4
    exact need_in hok (eq_of_beq h) (by omega) h4 h2
  · intro h
    have hz := r.need_zero (s - min s (t + r.keep.toNat)) (min s (t + r.keep.toNat)) (by omega) (fun u h3 h4 => h u (by omega) (by omega))
    rw [show min s (t + r.keep.toNat) + (s - min s (t + r.keep.toNat)) = s by omega] at hz
    rw [hz]; rfl
theorem feeds_mono (hok : r.ok) {t i j : Nat} (h : r.feeds t j = true) (h1 : t ≤ i) (h2 : i ≤ j) (h3 : j ≤ r.days.length) : r.feeds t i = true :=
  (feeds_iff hok h1 (by omega)).2 (fun u h4 h5 => (feeds_iff hok (by omega) h3).1 h u h4 (by omega))
theorem frm_le (hok : r.ok) {t s : Nat} (ho : (r.day t).opn = true) (h1 : t < s) (h2 : s ≤ r.days.length) (hf : r.feeds t s = true) : r.frm t ≤ r.price t s + r.frm s := by
  rw [r.frm_eq (show t < r.days.length by omega)]
  unfold Rd.fromAt
  rw [if_pos ho]
  exact r.scan_lb (r.days.length - t) (t + 1) 1000000000 s h1 (by omega) (fun i h3 h4 => feeds_mono hok hf (by omega) h4 h2)
theorem frm_opt (hok : r.ok) : ∀ l, Suf r l → r.frm (hdN r l) ≤ sufC r l
  | [], _ => by unfold hdN sufC; simp [r.frm_end]
  | t :: l, h => by
    have ih := frm_opt hok l h.2.2.2.2
    have h1 := frm_le hok h.2.1 h.2.2.1 (hdN_le h.2.2.2.2) h.2.2.2.1
    show r.frm t ≤ r.price t (hdN r l) + sufC r l
    omega
theorem tbl_le_frm {t : Nat} (ht : t ≤ r.days.length) : r.tbl t ≤ r.frm t := by
  rcases Nat.lt_or_ge t r.days.length with h | h
  · rw [r.tbl_eq h]
    unfold Rd.tabAt
    split <;> omega
  · obtain rfl : t = r.days.length := by omega
    rw [r.tbl_end, r.frm_end]; exact Int.le_refl _
theorem tbl_step {t : Nat} (ht : t < r.days.length) (hz : (r.day t).need = 0) : r.tbl t ≤ r.tbl (t + 1) := by
  rw [r.tbl_eq ht]
  unfold Rd.tabAt
  rw [if_pos hz]; omega
theorem step_skip {f : Nat → Int} (hf : ∀ t, t < r.days.length → (r.day t).need = 0 → f t ≤ f (t + 1)) : ∀ (k t : Nat), t + k ≤ r.days.length → (∀ u, t ≤ u → u < t + k → (r.day u).need = 0) → f t ≤ f (t + k)
  | 0, t, _, _ => Int.le_refl _
  | k + 1, t, h, hz => by
    have h1 := step_skip hf k t (by omega) (fun u h1 h2 => hz u h1 (by omega))
    have h2 := hf (t + k) (by omega) (hz (t + k) (by omega) (by omega))
    rw [show t + (k + 1) = t + k + 1 by omega]; omega
theorem step_to {f : Nat → Int} (hf : ∀ t, t < r.days.length → (r.day t).need = 0 → f t ≤ f (t + 1)) {t s : Nat} (h1 : t ≤ s) (h2 : s ≤ r.days.length) (hz : ∀ u, t ≤ u → u < s → (r.day u).need = 0) : f t ≤ f s := by
  have := step_skip hf (s - t) t (by omega) (fun u h3 h4 => hz u h3 (by omega))
  rwa [show t + (s - t) = s by omega] at this
theorem need_zero_to {t s : Nat} (h1 : t ≤ s) (h2 : s ≤ r.days.length) (hz : ∀ u, t ≤ u → u < s → (r.day u).need = 0) : r.need t s = 0 := by
  have := r.need_zero (s - t) t (by omega) (fun u h3 h4 => hz u h3 (by omega))
  rwa [show t + (s - t) = s by omega] at this
/-- Any right table is below what all plans cost. -/
theorem table_opt (hok : r.ok) {f : Nat → Int} (hend : f r.days.length = 0) (hf : ∀ t, t < r.days.length → (r.day t).need = 0 → f t ≤ f (t + 1))
    (hb : ∀ t, t < r.days.length → (r.day t).opn = true → ∀ s, t < s → s ≤ r.days.length → (s : Int) ≤ t + r.keep → f t ≤ r.price t s + f s) : ∀ l, Suf r l → f (hdN r l) ≤ sufC r l
  | [], _ => by unfold hdN sufC; simp [hend]
  | t :: l, h => by
    have ih := table_opt hok hend hf hb l h.2.2.2.2
    have hle := hdN_le h.2.2.2.2
    have hz := (feeds_iff hok (Nat.le_of_lt h.2.2.1) hle).1 h.2.2.2.1
    have hk := hok.2.1
    have hlt := h.2.2.1
    show f t ≤ r.price t (hdN r l) + sufC r l
    by_cases h1 : (hdN r l : Int) ≤ t + r.keep
    · have := hb t h.1 h.2.1 _ hlt hle h1
      omega
    · have h2 := hb t h.1 h.2.1 (t + r.keep.toNat) (by omega) (by omega) (by omega)
      have h3 := step_to (r := r) hf (t := t + r.keep.toNat) (s := hdN r l) (by omega) hle (fun u h4 h5 => hz u (by omega) h5)
      have h4 : r.need (t + r.keep.toNat) (hdN r l) = 0 := need_zero_to (by omega) hle (fun u h4 h5 => hz u (by omega) h5)
      have h5 := need_append r (a := t) (b := t + r.keep.toNat) (c := hdN r l) (by omega) (by omega)
      have h6 : r.price t (hdN r l) = r.price t (t + r.keep.toNat) := by unfold Rd.price; rw [h5, h4, Int.add_zero]
      omega
theorem table_opt0 (hok : r.ok) {f : Nat → Int} (hend : f r.days.length = 0) (hf : ∀ t, t < r.days.length → (r.day t).need = 0 → f t ≤ f (t + 1))
    (hb : ∀ t, t < r.days.length → (r.day t).opn = true → ∀ s, t < s → s ≤ r.days.length → (s : Int) ≤ t + r.keep → f t ≤ r.price t s + f s) {l : List Nat} (h : Suf r l) (h0 : r.need 0 (hdN r l) = 0) : f 0 ≤ sufC r l := by
  have h1 := table_opt hok hend hf hb l h
  have h2 := step_to (r := r) hf (t := 0) (s := hdN r l) (by omega) (hdN_le h) (fun u h3 h4 => need_in hok h0 h3 h4 (hdN_le h))
  omega
theorem tbl_buy (hok : r.ok) {t s : Nat} (ht : t < r.days.length) (ho : (r.day t).opn = true) (h1 : t < s) (h2 : s ≤ r.days.length) (h3 : (s : Int) ≤ t + r.keep) : r.tbl t ≤ r.price t s + r.tbl s := by
  obtain ⟨u, h4, h5, h6, h7⟩ := r.tbl_hit (r.days.length - s) s (by omega)
  have h8 := tbl_le_frm (r := r) (Nat.le_of_lt ht)
  have h9 := frm_le hok ho (show t < u by omega) h5 ((feeds_iff hok (by omega) h5).2 (fun v h9 h10 => h7 v (by omega) h10))
  have h10 : r.need s u = 0 := need_zero_to h4 h5 h7
  have h11 := need_append r (a := t) (b := s) (c := u) (by omega) h4
  have h12 : r.price t u = r.price t s := by unfold Rd.price; rw [h11, h10, Int.add_zero]
  omega
theorem suf_len : ∀ {l : List Nat}, Suf r l → l.length + hdN r l ≤ r.days.length
  | [], _ => by simp [hdN]
  | t :: l, h => by
    have ih := suf_len h.2.2.2.2
    have := h.2.2.1
    show l.length + 1 + t ≤ _
    omega
theorem suf_bd (hok : r.ok) : ∀ {l : List Nat}, Suf r l → sufC r l ≤ 100000 * l.length + 1000 * r.need (hdN r l) r.days.length
  | [], _ => by unfold sufC hdN; simp [need_self]
  | t :: l, h => by
    have ih := suf_bd hok h.2.2.2.2
    have hle := hdN_le h.2.2.2.2
    have hd := Rd.day_ok hok h.1
    have hn := Rd.need_bd hok t (hdN r l)
    have hlt := h.2.2.1
    have h1 := need_append r (a := t) (b := hdN r l) (c := r.days.length) (by omega) hle
    have h2 : (r.day t).price * r.need t (hdN r l) ≤ 1000 * r.need t (hdN r l) := Int.mul_le_mul_of_nonneg_right hd.2.1.2 hn.1
    have h3 := hd.2.2.2
    show r.price t (hdN r l) + sufC r l ≤ 100000 * ((l.length + 1 : Nat) : Int) + 1000 * r.need t r.days.length
    unfold Rd.price
    omega
theorem suf_lt (hok : r.ok) {l : List Nat} (h : Suf r l) : sufC r l < 1000000000 := by
  have h1 := suf_bd hok h
  have h2 := suf_len h
  have h3 := Rd.need_bd hok (hdN r l) r.days.length
  have h4 := hok.1
  omega
theorem next_feeds (hok : r.ok) {t : Nat} (ht : t < r.days.length) (hf : r.frm t < 1000000000) : (r.day t).opn = true ∧ r.feeds t (r.next t) = true := by
  obtain ⟨ho, j, h1, h2, h3, h4⟩ := r.next_ex ht hf
  have h5 := firstN_le (r.nextP t) (r.days.length - t) (t + 1) j h1 (by omega) (by unfold Rd.nextP; simpa using h4)
  have h6 := Rd.next_spec hok ht hf
  exact ⟨ho, h3 _ h6.1 (by have := h5.1; unfold Rd.next; omega)⟩
theorem chain_ok (hok : r.ok) : ∀ (k t : Nat), r.days.length ≤ t + k → t < r.days.length → r.frm t < 1000000000 → Suf r (r.chain k t) ∧ sufC r (r.chain k t) = r.frm t ∧ hdN r (r.chain k t) = t
  | 0, t, h, h2, _ => by omega
  | k + 1, t, h, ht, hf => by
    have h1 := Rd.next_spec hok ht hf
    have h2 := next_feeds hok ht hf
    have h3 : r.price t (r.next t) + r.frm (r.next t) = r.frm t := by have := h1.2.2.1; unfold Rd.nextP at this; exact eq_of_beq this
    unfold Rd.chain
    by_cases c1 : (r.feeds t r.days.length && (r.price t r.days.length == r.frm t)) = true
    · rw [if_pos c1]
      rw [Bool.and_eq_true] at c1
      refine ⟨⟨ht, h2.1, ht, c1.1, trivial⟩, ?_, rfl⟩
      have := eq_of_beq c1.2
      show r.price t r.days.length + 0 = _
      omega
    · rw [if_neg c1]
      by_cases c2 : r.next t = r.days.length
      · rw [if_pos c2]
        rw [c2] at h2 h3
        rw [r.frm_end] at h3
        refine ⟨⟨ht, h2.1, ht, h2.2, trivial⟩, ?_, rfl⟩
        show r.price t r.days.length + 0 = _
        omega
      · rw [if_neg c2]
        obtain ⟨i1, i2, i3⟩ := chain_ok hok k (r.next t) (by omega) (by omega) h1.2.2.2
        refine ⟨⟨ht, h2.1, by rw [i3]; omega, by rw [i3]; exact h2.2, i1⟩, ?_, rfl⟩
        show r.price t (hdN r (r.chain k (r.next t))) + sufC r (r.chain k (r.next t)) = _
        rw [i3, i2, h3]
theorem first_zero (hz : ¬ (r.tbl 0 = 0 ∧ r.need 0 r.days.length = 0)) : r.need 0 r.first = 0 := by
  obtain ⟨s, h1, h2, h3, h4⟩ := r.tbl_hit r.days.length 0 (by omega)
  have h5 := firstN_le (fun t => r.frm t == r.tbl 0) (r.days.length + 1) 0 s h1 (by omega) (by simpa using h3)
  have h6 := (Rd.first_spec hz).1
  exact need_zero_to (by omega) (Nat.le_of_lt h6) (fun u h7 h8 => h4 u h7 (by have := h5.1; unfold Rd.first at h8; omega))
theorem plan_ok (hok : r.ok) (hM : r.tbl 0 < 1000000000) : Suf r r.planN ∧ r.need 0 (hdN r r.planN) = 0 ∧ sufC r r.planN = r.tbl 0 := by
  unfold Rd.planN
  by_cases hz : r.tbl 0 = 0 ∧ r.need 0 r.days.length = 0
  · rw [if_pos hz]
    exact ⟨trivial, hz.2, hz.1.symm⟩
  · rw [if_neg hz]
    have h1 := Rd.first_spec hz
    obtain ⟨i1, i2, i3⟩ := chain_ok hok r.days.length r.first (by omega) h1.1 (by omega)
    exact ⟨i1, by rw [i3]; exact first_zero hz, by rw [i2, h1.2]⟩

/- The same, of a plan. -/
theorem qd_nats (l : List Nat) (i : Nat) : qd r (natsI l) i = if i < l.length then l.getD i 0 else r.days.length := by
  unfold qd
  rw [natsI_len]
  by_cases h : i < l.length
  · rw [if_pos h, if_pos h]
    simp [natsI, h]
  · rw [if_neg h, if_neg h]
theorem qd_zero (l : List Nat) : qd r (natsI l) 0 = hdN r l := by
  rw [qd_nats]
  cases l <;> simp [hdN]
theorem qd_succ (t : Nat) (l : List Nat) (i : Nat) : qd r (natsI (t :: l)) (i + 1) = qd r (natsI l) i := by
  rw [qd_nats, qd_nats]
  by_cases h : i < l.length
  · rw [if_pos h, if_pos (by simpa using h)]; rfl
  · rw [if_neg h, if_neg (by simpa using h)]
def QOk (r : Rd) (L : List Int) : Prop := ∀ i, i < L.length → qd r L i < r.days.length ∧ (r.day (qd r L i)).opn = true ∧ qd r L i < qd r L (i + 1) ∧ r.feeds (qd r L i) (qd r L (i + 1)) = true
theorem suf_iff : ∀ l : List Nat, Suf r l ↔ QOk r (natsI l)
  | [] => ⟨fun _ i h => by simp [natsI] at h, fun _ => trivial⟩
  | t :: l => by
    have ih := suf_iff l
    have e0 : qd r (natsI (t :: l)) 0 = t := qd_zero _
    constructor
    · rintro ⟨h1, h2, h3, h4, h5⟩ i hi
      cases i with
      | zero => rw [qd_succ, qd_zero l, e0]; exact ⟨h1, h2, h3, h4⟩
      | succ i =>
        rw [qd_succ, qd_succ]
        exact ih.1 h5 i (by rw [natsI_len] at hi ⊢; simpa using hi)
    · intro h
      have h0 := h 0 (by rw [natsI_len]; simp)
      rw [qd_succ, qd_zero l, e0] at h0
      refine ⟨h0.1, h0.2.1, h0.2.2.1, h0.2.2.2, ih.2 (fun i hi => ?_)⟩
      have := h (i + 1) (by rw [natsI_len] at hi ⊢; simpa using hi)
      rwa [qd_succ, qd_succ] at this
theorem plan_nats {L : List Int} (h : PlanOk r L) : ∃ l : List Nat, L = natsI l := by
  refine ⟨L.map Int.toNat, ?_⟩
  unfold natsI
  rw [List.map_map]
  refine (List.ext_getElem (by simp) (fun i h1 h2 => ?_))
  have := (h.rng i h1).1
  simp
  omega
theorem planOk_iff (l : List Nat) : PlanOk r (natsI l) ↔ Suf r l ∧ r.need 0 (hdN r l) = 0 := by
  rw [suf_iff]
  constructor
  · intro h
    refine ⟨fun i hi => ⟨h.q_lt hi, ?_, h.q_inc hi, h.fd i hi⟩, by rw [← qd_zero]; exact h.st⟩
    rw [qd_at hi]
    exact h.opn i hi
  · rintro ⟨h, h0⟩
    have hnn : ∀ i (hi : i < (natsI l).length), (natsI l)[i] = ((qd r (natsI l) i : Nat) : Int) := fun i hi => by
      rw [qd_at hi]
      simp [natsI]
    refine ⟨fun i hi => ?_, fun i hi => ?_, fun i hi => ?_, fun i hi => (h i hi).2.2.2, by rw [qd_zero]; exact h0⟩
    · have := (h i hi).1
      rw [hnn i hi]; omega
    · rw [hnn i hi, Int.toNat_natCast]; exact (h i hi).2.1
    · rw [hnn i (by omega), hnn (i + 1) hi]
      have := (h i (by omega)).2.2.1
      omega
theorem spN_cons (t : Nat) (l : List Nat) : ∀ k, spN r (natsI (t :: l)) (k + 1) = r.price t (hdN r l) + spN r (natsI l) k
  | 0 => by
    unfold spN
    rw [qd_succ, qd_zero l, show qd r (natsI (t :: l)) 0 = t from qd_zero _]
    simp [spN]
  | k + 1 => by
    have ih := spN_cons t l k
    have e : spN r (natsI (t :: l)) (k + 1 + 1) = spN r (natsI (t :: l)) (k + 1) + r.price (qd r (natsI (t :: l)) (k + 1)) (qd r (natsI (t :: l)) (k + 1 + 1)) := rfl
    have e2 : spN r (natsI l) (k + 1) = spN r (natsI l) k + r.price (qd r (natsI l) k) (qd r (natsI l) (k + 1)) := rfl
    rw [e, ih, e2, qd_succ, qd_succ]
    omega
theorem spN_nats : ∀ l : List Nat, spN r (natsI l) (natsI l).length = sufC r l
  | [] => rfl
  | t :: l => by
    have ih := spN_nats l
    rw [natsI_len] at ih ⊢
    show spN r (natsI (t :: l)) (l.length + 1) = _
    rw [spN_cons, ih]; rfl

/-- What Buy hands back is a plan of this cost. -/
theorem buy_ok (hok : r.ok) (hM : r.tbl 0 < 1000000000) : PlanOk r (natsI r.planN) ∧ spN r (natsI r.planN) (natsI r.planN).length = r.tbl 0 ∧ (natsI r.planN).length ≤ r.days.length := by
  obtain ⟨h1, h2, h3⟩ := plan_ok hok hM
  refine ⟨(planOk_iff _).2 ⟨h1, h2⟩, by rw [spN_nats, h3], ?_⟩
  rw [natsI_len]
  have := suf_len h1
  omega
/-- No plan costs less. -/
theorem buy_opt (hok : r.ok) {L : List Int} (h : PlanOk r L) : r.tbl 0 ≤ spN r L L.length ∧ r.tbl 0 < 1000000000 := by
  obtain ⟨l, rfl⟩ := plan_nats h
  obtain ⟨h1, h2⟩ := (planOk_iff l).1 h
  rw [spN_nats]
  have h3 := table_opt0 hok (f := r.tbl) r.tbl_end (fun t ht hz => tbl_step ht hz) (fun t ht ho s h1 h2 h3 => tbl_buy hok ht ho h1 h2 h3) h1 h2
  have h4 := suf_lt hok h1
  omega
theorem tg_tab {n : Nat} {f : Nat → Int} {i : Nat} (h : i < n) : tg (tab n f) i = f i := by
  unfold tg
  rw [List.getD_eq_getElem?_getD, tab_get f h]; rfl
/-- Its table is right. -/
theorem tab_right (hok : r.ok) : TabOk r (tab (r.days.length + 1) r.tbl) := by
  refine ⟨tab_len _ _, ?_, ?_, fun t ht hz => ?_, fun t ht ho s h1 h2 h3 => ?_⟩
  · unfold btwB
    rw [List.all_eq_true]
    intro x hx
    unfold tab at hx
    obtain ⟨i, -, rfl⟩ := List.mem_map.1 hx
    exact decide_eq_true (Rd.tbl_bd hok i)
  · rw [tg_tab (by omega)]; exact r.tbl_end
  · rw [tg_tab (by omega), tg_tab (by omega)]; exact tbl_step ht hz
  · rw [tg_tab (by omega), tg_tab (by omega)]; exact tbl_buy hok ht ho h1 h2 h3
/-- A right table is below all plans. -/
theorem tab_sound (hok : r.ok) {T L : List Int} (hT : TabOk r T) (h : PlanOk r L) : tg T 0 ≤ spN r L L.length := by
  obtain ⟨l, rfl⟩ := plan_nats h
  obtain ⟨h1, h2⟩ := (planOk_iff l).1 h
  rw [spN_nats]
  exact table_opt0 hok (f := tg T) hT.fin hT.stp hT.buy h1 h2
/-- Feed that keeps longer does not cost more. -/
theorem keep_more {days : List Mkt} {k1 k2 : Int} (h1 : (Rd.mk days k1).ok) (h2 : (Rd.mk days k2).ok) (hk : k1 ≤ k2) (hM : (Rd.mk days k1).tbl 0 < 1000000000) : (Rd.mk days k2).tbl 0 ≤ (Rd.mk days k1).tbl 0 := by
  obtain ⟨i1, i2, i3⟩ := plan_ok h1 hM
  have hsuf : ∀ l, Suf ⟨days, k1⟩ l → Suf ⟨days, k2⟩ l := by
    intro l
    induction l with
    | nil => exact fun _ => trivial
    | cons t l ih =>
      rintro ⟨a1, a2, a3, a4, a5⟩
      refine ⟨a1, a2, a3, ?_, ih a5⟩
      have hle := hdN_le a5
      exact (feeds_iff h2 (Nat.le_of_lt a3) hle).2 (fun u h3 h4 => (feeds_iff h1 (Nat.le_of_lt a3) hle).1 a4 u (by
        show (t : Int) + k1 ≤ u
        have : (t : Int) + k2 ≤ u := h3
        omega) h4)
  have hc : ∀ l, sufC ⟨days, k2⟩ l = sufC ⟨days, k1⟩ l := by
    intro l
    induction l with
    | nil => rfl
    | cons t l ih =>
      show (Rd.mk days k2).price t (hdN ⟨days, k2⟩ l) + _ = (Rd.mk days k1).price t (hdN ⟨days, k1⟩ l) + _
      rw [ih]; rfl
  have := table_opt0 h2 (f := (Rd.mk days k2).tbl) (Rd.tbl_end _) (fun t ht hz => tbl_step ht hz) (fun t ht ho s a1 a2 a3 => tbl_buy h2 ht ho a1 a2 a3) (hsuf _ i1) i2
  rw [hc, i3] at this
  exact this
end
end Go.Proofs.Ytopfhinnamhoiaa

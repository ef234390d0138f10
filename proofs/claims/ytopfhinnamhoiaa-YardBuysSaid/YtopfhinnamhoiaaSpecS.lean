/- The best plan by the reference's words: all lists of open days in their order. -/
import Derived.Test.YtopfhinnamhoiaaSpecR
namespace Go.Proofs.Ytopfhinnamhoiaa
open Go.RowKit Go.Yd Go.Pl Go.Sort Go.Bs

/-- what a list costs -/
def spL (r : Rd) (l : List Nat) : Int := spN r (natsI l) l.length
open Classical in
/-- the better one of a list and the best so far -/
noncomputable def pick (r : Rd) (b : Option (List Nat)) (l : List Nat) : Option (List Nat) :=
  if PlanOk r (natsI l) ∧ (∀ x, b = some x → spL r l < spL r x) then some l else b
/-- the lists that follow, when k days are left -/
def sfx (r : Rd) : Nat → Nat → List (List Nat)
  | 0, _ => []
  | k + 1, f => (if (r.day f).opn = true then ([] :: sfx r k (f + 1)).map (f :: ·) else []) ++ sfx r k (f + 1)
/-- the loop of better -/
noncomputable def loopB (r : Rd) : Nat → List Nat → Nat → Option (List Nat) → Option (List Nat)
  | 0, _, _, b => b
  | k + 1, now, f, b => loopB r k now (f + 1) (if (r.day f).opn = true then loopB r k (now ++ [f]) (f + 1) (pick r b (now ++ [f])) else b)
section
variable {r : Rd}
theorem loopB_eq : ∀ (k : Nat) (now : List Nat) (f : Nat) (b : Option (List Nat)), loopB r k now f b = (((sfx r k f).map (now ++ ·)).foldl (pick r) b)
  | 0, now, f, b => rfl
  | k + 1, now, f, b => by
    unfold loopB sfx
    rw [loopB_eq k now (f + 1), List.map_append, List.foldl_append]
    congr 1
    by_cases h : (r.day f).opn = true
    · rw [if_pos h, if_pos h, loopB_eq k (now ++ [f]) (f + 1)]
      simp [List.map_map, Function.comp_def, List.append_assoc]
    · rw [if_neg h, if_neg h]; rfl
/-- the first of the least -/
theorem fold_split {L1 L2 : List (List Nat)} {x : List Nat} (hx : PlanOk r (natsI x)) (h1 : ∀ p ∈ L1, PlanOk r (natsI p) → spL r x < spL r p) (h2 : ∀ p ∈ L2, PlanOk r (natsI p) → spL r x ≤ spL r p) :
    (L1 ++ x :: L2).foldl (pick r) none = some x := by
  have key : ∀ (L : List (List Nat)) (b : Option (List Nat)), (∀ p ∈ L, PlanOk r (natsI p) → spL r x < spL r p) → (∀ y, b = some y → spL r x < spL r y) → ∀ y, L.foldl (pick r) b = some y → spL r x < spL r y := by
    intro L
    induction L with
    | nil => intro b _ hb y hy; exact hb y hy
    | cons p L ih =>
      intro b hL hb y hy
      rw [List.foldl_cons] at hy
      refine ih (pick r b p) (fun q hq => hL q (by simp [hq])) (fun z hz => ?_) y hy
      unfold pick at hz
      split at hz
      · rename_i hp
        cases hz
        exact hL p (by simp) hp.1
      · exact hb z hz
  have key2 : ∀ (L : List (List Nat)), (∀ p ∈ L, PlanOk r (natsI p) → spL r x ≤ spL r p) → L.foldl (pick r) (some x) = some x := by
    intro L
    induction L with
    | nil => intro _; rfl
    | cons p L ih =>
      intro hL
      rw [List.foldl_cons]
      have : pick r (some x) p = some x := by
        unfold pick
        rw [if_neg]
        rintro ⟨hp, hlt⟩
        have := hlt x rfl
        have := hL p (by simp) hp
        omega
      rw [this]
      exact ih (fun q hq => hL q (by simp [hq]))
  rw [List.foldl_append, List.foldl_cons]
  have h3 : pick r (L1.foldl (pick r) none) x = some x := by
    unfold pick
    rw [if_pos ⟨hx, fun y hy => key L1 none h1 (fun y hy => by cases hy) y hy⟩]
  rw [h3]
  exact key2 L2 h2
theorem fold_none {L : List (List Nat)} (h : ∀ p, ¬ PlanOk r (natsI p)) : L.foldl (pick r) none = none := by
  induction L with
  | nil => rfl
  | cons p L ih =>
    rw [List.foldl_cons]
    have : pick r none p = none := by unfold pick; rw [if_neg (fun hh => h p hh.1)]
    rw [this]; exact ih
/-- the best of all, by the reference -/
noncomputable def refBuy (r : Rd) : Option (List Nat) := loopB r r.days.length [] 0 (pick r none [])
theorem refBuy_eq : refBuy r = ([] :: sfx r r.days.length 0).foldl (pick r) none := by
  unfold refBuy
  rw [loopB_eq, List.foldl_cons]
  simp

/-- heads in the lists that follow -/
theorem sfx_head : ∀ (k f : Nat) (p : List Nat), p ∈ sfx r k f → ∃ t q, p = t :: q ∧ f ≤ t ∧ t < f + k ∧ (r.day t).opn = true
  | 0, f, p, h => by simp [sfx] at h
  | k + 1, f, p, h => by
    unfold sfx at h
    rcases List.mem_append.1 h with h | h
    · split at h
      · rename_i ho
        obtain ⟨q, _, rfl⟩ := List.mem_map.1 h
        exact ⟨f, q, rfl, Nat.le_refl _, by omega, ho⟩
      · simp at h
    · obtain ⟨t, q, h1, h2, h3, h4⟩ := sfx_head k (f + 1) p h
      exact ⟨t, q, h1, by omega, by omega, h4⟩
/-- the lists that begin with s stand behind all with a lesser head -/
theorem sfx_at : ∀ (k f s : Nat), f ≤ s → s < f + k → (r.day s).opn = true →
    ∃ L1 L2, sfx r k f = L1 ++ (([] :: sfx r (f + k - 1 - s) (s + 1)).map (s :: ·) ++ L2) ∧ (∀ p ∈ L1, ∃ t q, p = t :: q ∧ f ≤ t ∧ t < s) 
  | 0, f, s, h1, h2, _ => by omega
  | k + 1, f, s, h1, h2, ho => by
    by_cases e : s = f
    · subst e
      refine ⟨[], sfx r k (s + 1), ?_, fun p hp => by simp at hp⟩
      conv => lhs; unfold sfx
      rw [if_pos ho, show s + (k + 1) - 1 - s = k by omega]
      rfl
    · obtain ⟨L1, L2, h3, h4⟩ := sfx_at k (f + 1) s (by omega) (by omega) ho
      refine ⟨(if (r.day f).opn = true then ([] :: sfx r k (f + 1)).map (f :: ·) else []) ++ L1, L2, ?_, fun p hp => ?_⟩
      · conv => lhs; unfold sfx
        rw [h3, List.append_assoc, show f + 1 + k - 1 - s = f + (k + 1) - 1 - s by omega]
      · rcases List.mem_append.1 hp with hp | hp
        · split at hp
          · obtain ⟨q, _, rfl⟩ := List.mem_map.1 hp
            exact ⟨f, q, rfl, Nat.le_refl _, by omega⟩
          · simp at hp
        · obtain ⟨t, q, h5, h6, h7⟩ := h4 p hp
          exact ⟨t, q, h5, by omega, h7⟩
theorem not_next {t f : Nat} (h1 : t < f) (h2 : f < r.next t) : r.price t f + r.frm f ≠ r.frm t := by
  intro h
  have h3 := firstN_ge (r.nextP t) (r.days.length - t) (t + 1)
  have h4 := firstN_le (r.nextP t) (r.days.length - t) (t + 1) f (by omega) (by
    have := h3.2
    unfold Rd.next at h2
    omega) (by unfold Rd.nextP; simpa using h)
  have := h4.1
  unfold Rd.next at h2
  omega
theorem chain_split (hok : r.ok) : ∀ (k t : Nat), r.days.length ≤ t + k → t < r.days.length → r.frm t < 1000000000 →
    ∃ L1 L2, ([] :: sfx r (r.days.length - 1 - t) (t + 1)).map (t :: ·) = L1 ++ r.chain k t :: L2 ∧ ∀ p ∈ L1, Suf r p → r.frm t < sufC r p
  | 0, t, h, h2, _ => by omega
  | k + 1, t, h, ht, hf => by
    have h1 := Rd.next_spec hok ht hf
    have h2 := next_feeds hok ht hf
    have h3 : r.price t (r.next t) + r.frm (r.next t) = r.frm t := by have := h1.2.2.1; unfold Rd.nextP at this; exact eq_of_beq this
    unfold Rd.chain
    by_cases c1 : (r.feeds t r.days.length && (r.price t r.days.length == r.frm t)) = true
    · rw [if_pos c1]
      exact ⟨[], _, rfl, fun p hp => by simp at hp⟩
    · rw [if_neg c1]
      by_cases c2 : r.next t = r.days.length
      · rw [if_pos c2]
        exact ⟨[], _, rfl, fun p hp => by simp at hp⟩
      · rw [if_neg c2]
        have hs : r.next t < r.days.length := by omega
        have hso : (r.day (r.next t)).opn = true := (next_feeds hok hs h1.2.2.2).1
        obtain ⟨i1, i2, i3, i4⟩ := chain_split hok k (r.next t) (by omega) hs h1.2.2.2
        obtain ⟨j1, j2, j3, j4⟩ := sfx_at (r := r) (r.days.length - 1 - t) (t + 1) (r.next t) h1.1 (by omega) hso
        rw [show t + 1 + (r.days.length - 1 - t) - 1 - r.next t = r.days.length - 1 - r.next t by omega, i3] at j3
        refine ⟨[t] :: (j1 ++ i1).map (t :: ·), (i2 ++ j2).map (t :: ·), ?_, fun p hp hsu => ?_⟩
        · rw [j3]
          simp [List.map_append]
        · have hopt : r.frm t ≤ sufC r p := by
            have hh : hdN r p = t := by
              rcases List.mem_cons.1 hp with rfl | hp
              · rfl
              · obtain ⟨q, _, rfl⟩ := List.mem_map.1 hp
                rfl
            have := frm_opt hok p hsu
            rwa [hh] at this
          rcases List.mem_cons.1 hp with rfl | hp
          · have hf2 : r.feeds t r.days.length = true := hsu.2.2.2.1
            have : sufC r [t] = r.price t r.days.length := by show r.price t r.days.length + 0 = _; omega
            rw [this] at hopt ⊢
            have hne : r.price t r.days.length ≠ r.frm t := fun h4 => c1 (by rw [hf2, h4]; simp)
            omega
          · obtain ⟨q, hq, rfl⟩ := List.mem_map.1 hp
            have hsq : Suf r q := hsu.2.2.2.2
            have hc : sufC r (t :: q) = r.price t (hdN r q) + sufC r q := rfl
            rcases List.mem_append.1 hq with hq | hq
            · obtain ⟨f, q', rfl, h5, h6⟩ := j4 q hq
              have h7 := frm_opt hok _ hsq
              have h8 : hdN r (f :: q') = f := rfl
              have h9 := not_next (r := r) (t := t) (f := f) (by omega) h6
              have h10 := frm_le hok (t := t) (s := f) hsu.2.1 (by omega) (by have := hsq.1; omega) (by have := hsu.2.2.2.1; rwa [h8] at this)
              rw [h8] at h7 hc
              omega
            · have h7 := i4 q hq hsq
              have h8 : hdN r q = r.next t := by
                have h9 : q ∈ ([] :: sfx r (r.days.length - 1 - r.next t) (r.next t + 1)).map (r.next t :: ·) := by rw [i3]; simp [hq]
                obtain ⟨q', _, rfl⟩ := List.mem_map.1 h9
                rfl
              rw [h8] at hc
              omega
theorem spL_suf (l : List Nat) : spL r l = sufC r l := by
  unfold spL
  have := spN_nats (r := r) l
  rwa [natsI_len] at this
/-- **The program's plan is the reference's.** -/
theorem buy_ref (hok : r.ok) : refBuy r = if r.tbl 0 < 1000000000 then some r.planN else none := by
  by_cases hM : r.tbl 0 < 1000000000
  · rw [if_pos hM, refBuy_eq]
    obtain ⟨b1, b2, b3⟩ := buy_ok hok hM
    have hsp : spL r r.planN = r.tbl 0 := by unfold spL; rw [natsI_len] at b2; exact b2
    have hopt : ∀ p, PlanOk r (natsI p) → r.tbl 0 ≤ spL r p := fun p hp => by
      have := (buy_opt hok hp).1
      rw [natsI_len] at this
      exact this
    have hbd := Rd.tbl_bd hok 0
    by_cases hz : r.tbl 0 = 0 ∧ r.need 0 r.days.length = 0
    · have hp : r.planN = [] := by unfold Rd.planN; rw [if_pos hz]
      rw [hp] at b1 hsp ⊢
      exact fold_split (L1 := []) b1 (fun p hp => by simp at hp) (fun p _ hpo => by rw [hsp]; exact hopt p hpo)
    · have h1 := Rd.first_spec hz
      have hfo : (r.day r.first).opn = true := (next_feeds hok h1.1 (by omega)).1
      have hp : r.planN = r.chain r.days.length r.first := by unfold Rd.planN; rw [if_neg hz]
      obtain ⟨i1, i2, i3, i4⟩ := chain_split hok r.days.length r.first (by omega) h1.1 (by omega)
      obtain ⟨j1, j2, j3, j4⟩ := sfx_at (r := r) r.days.length 0 r.first (by omega) (by omega) hfo
      rw [show 0 + r.days.length - 1 - r.first = r.days.length - 1 - r.first by omega, i3, ← hp] at j3
      have hL : ([] :: sfx r r.days.length 0) = ([] :: (j1 ++ i1)) ++ r.planN :: (i2 ++ j2) := by rw [j3]; simp
      rw [hL]
      refine fold_split b1 (fun p hpm hpo => ?_) (fun p _ hpo => by rw [hsp]; exact hopt p hpo)
      rw [hsp]
      have h5 := hopt p hpo
      rw [spL_suf] at h5 ⊢
      obtain ⟨s1, s2⟩ := (planOk_iff p).1 hpo
      rcases List.mem_cons.1 hpm with rfl | hpm
      · have h6 : sufC r [] = 0 := rfl
        have h7 : r.need 0 r.days.length = 0 := s2
        rw [h6] at h5 ⊢
        omega
      · rcases List.mem_append.1 hpm with hpm | hpm
        · obtain ⟨f, q, rfl, -, h6⟩ := j4 p hpm
          have h7 := frm_opt hok _ s1
          have h8 : hdN r (f :: q) = f := rfl
          rw [h8] at h7 s2
          have hfn := s1.1
          have h9 : r.tbl 0 ≤ r.tbl f := step_to (r := r) (f := r.tbl) (fun t ht hz => tbl_step ht hz) (Nat.zero_le f) (Nat.le_of_lt hfn) (fun u a1 a2 => need_in hok s2 a1 a2 (Nat.le_of_lt hfn))
          have h10 := tbl_le_frm (r := r) (Nat.le_of_lt hfn)
          have h11 : r.frm f ≠ r.tbl 0 := fun e => by
            have h12 := firstN_le (fun t => r.frm t == r.tbl 0) (r.days.length + 1) 0 f (by omega) (by omega) (by simpa using e)
            have := h12.1
            unfold Rd.first at h6
            omega
          omega
        · have h7 := i4 p hpm s1
          omega
  · rw [if_neg hM, refBuy_eq]
    exact fold_none (fun p hp => hM (buy_opt hok hp).2)
end
end Go.Proofs.Ytopfhinnamhoiaa

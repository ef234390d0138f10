/- Plain: what packs is right; how it is taken off. -/
import Derived.Test.YtbpmfaibcibleaaFirP
namespace Go.Wg
open Go.RowKit Go.Bs Go.Pl
theorem fit_room {nl : Nat} (h6 : nl ≤ 6) {ld : Bool} : ∀ (ts : List Th) (left needs : List Int) (p : List Nat), left.length = 6 → (∀ z, z < nl → 0 ≤ left.getD z 0) → fitP nl ld ts left needs p → ∀ z, z < nl → lsum ts p z ≤ left.getD z 0
  | [], left, _, [], _, h0, _, z, hz => by simpa [lsum] using h0 z hz
  | [], _, _, _ :: _, _, _, h, _, _ => h.elim
  | _ :: _, _, _, [], _, _, h, _, _ => h.elim
  | t :: r, left, needs, a :: p, hl, h0, h, z, hz => by
    obtain ⟨h1, h2, h3⟩ := h
    unfold canB at h2
    rw [Bool.and_eq_true, decide_eq_true_eq] at h2
    have hget : ∀ z, (stepL t left a).getD z 0 = if a = z then left.getD a 0 - t.long else left.getD z 0 := by
      intro z
      unfold stepL
      by_cases e : a = z
      · subst e; rw [if_pos rfl, getD_set_same _ _ _ _ (by omega)]
      · rw [if_neg e, getD_set_other _ _ _ _ _ e]
    have ih := fit_room h6 r _ _ p (by unfold stepL; rw [List.length_set]; exact hl) (fun z hz => by
      rw [hget]
      split
      · omega
      · exact h0 z hz) h3 z hz
    rw [hget] at ih
    unfold lsum
    by_cases e : a = z
    · subst e
      rw [if_pos rfl] at ih ⊢
      omega
    · rw [if_neg e] at ih ⊢
      omega
def nkey (ts : List Th) (a : Int) : Int := -(thAt ts a).need
theorem sortL_before (ts : List Th) : ∀ (l : List Int), l.Pairwise (· < ·) → (sortL (needC ts) l).Pairwise (Before (nkey ts)) := by
  intro l
  suffices h : ∀ (n : Nat) (l : List Int), l.length = n → l.Pairwise (· < ·) → (sortL (needC ts) l).Pairwise (Before (nkey ts)) from h _ l rfl
  intro n
  induction n with
  | zero => intro l hl _; rw [List.length_eq_zero_iff.1 hl]; exact List.Pairwise.nil
  | succ n ih =>
    intro l hl hp
    obtain ⟨k, x, rfl⟩ : ∃ k x, l = k ++ [x] := by
      have hne : l ≠ [] := fun e => by rw [e] at hl; simp at hl
      exact ⟨l.dropLast, l.getLast hne, (List.dropLast_concat_getLast hne).symm⟩
    rw [List.length_append] at hl
    simp only [List.length_cons, List.length_nil] at hl
    obtain ⟨p1, -, p3⟩ := List.pairwise_append.1 hp
    have h1 := ih k (by omega) p1
    rw [sortL_snoc]
    unfold ins1
    rw [List.pairwise_reverse]
    refine insR_sorted (nkey ts) x _ (by rw [List.pairwise_reverse]; exact h1) fun s hs => ?_
    have hs2 : s ∈ k := (sortL_perm (needC ts) k).mem_iff.1 (by simpa using hs)
    exact p3 s hs2 x (by simp)
theorem before_falls {ts : List Th} {l : List Int} (h : l.Pairwise (Before (nkey ts))) : Falls ts l := h.imp fun h => by
  unfold Before nkey at h
  omega
theorem upto_lt (n : Nat) : (upto n).Pairwise (· < ·) := by
  unfold upto
  rw [List.pairwise_map]
  exact List.pairwise_lt_range.imp fun h => by simp; omega
theorem map_getD {n : Nat} {q : List Nat} (hq : q.length = n) : q = (upto n).map fun x => q.getD x.toNat 0 := by
  apply List.ext_getElem?
  intro i
  by_cases hi : i < n
  · simp [upto, List.getD, hi, hq]
  · simp [upto, hi, hq]
theorem laid_row {ts : List Th} {nl n : Nat} {q : List Nat} (hq : q.length = n) {i : Nat} (hi : i < nl) (x : Int) : x ∈ (laid ts nl (upto n) q).getD i [] ↔ (0 ≤ x ∧ x < n) ∧ q.getD x.toNat 0 = i := by
  have e : (laid ts nl (upto n) q).getD i [] = sortL (needC ts) (part (upto n) q i) := by simp [laid, List.getD, hi]
  rw [e, (sortL_perm _ _).mem_iff]
  conv => lhs; rw [map_getD hq]
  rw [part_filter, List.mem_filter, mem_upto, beq_iff_eq]
/-- what packs is right, and loadable if it was loaded -/
theorem pack_right {j : Lo} {ts : List Th} {ld : Bool} {P : List (List Int)} (h0 : checkE j ts = 0) (hp : packL j ts (upto ts.length) ld = some P) : rightB j ts P = true ∧ (ld = true → loadB P = true) := by
  obtain ⟨hj, h14, hok⟩ := checkE_zero.1 h0
  have h6 := hj.many
  unfold packL at hp
  rw [upto_map] at hp
  by_cases hcar : carB j ts (upto ts.length) = true
  · rw [if_pos hcar] at hp
    obtain ⟨q, hq, rfl⟩ := Option.map_eq_some_iff.1 hp
    have hql := srch_len _ _ _ _ hq
    have hfit := srch_fit _ _ _ _ hq
    have hqn : ∀ k, k < ts.length → q.getD k 0 < j.lanes.length := by
      have key : ∀ (us : List Th) (left needs : List Int) (r : List Nat), fitP j.lanes.length ld us left needs r → ∀ k, k < us.length → r.getD k 0 < j.lanes.length := by
        intro us
        induction us with
        | nil => intro _ _ _ _ k hk; simp at hk
        | cons t us ih =>
          intro left needs r hf k hk
          cases r with
          | nil => exact hf.elim
          | cons a r =>
            rcases k with _ | k
            · exact hf.1
            · have := ih _ _ r hf.2.2 k (by simpa using hk)
              simpa using this
      exact key ts _ _ q hfit
    have hlen : (laid ts j.lanes.length (upto ts.length) q).length = j.lanes.length := by simp [laid]
    have hget : ∀ i, i < j.lanes.length → (laid ts j.lanes.length (upto ts.length) q).getD i [] = sortL (needC ts) (part (upto ts.length) q i) := fun i hi => by simp [laid, List.getD, hi]
    have hpart : ∀ i, (part (upto ts.length) q i).Pairwise (· < ·) := fun i => by
      rw [map_getD hql, part_filter]
      exact (upto_lt _).sublist List.filter_sublist
    have hrow : ∀ l ∈ laid ts j.lanes.length (upto ts.length) q, ∃ i, i < j.lanes.length ∧ l = sortL (needC ts) (part (upto ts.length) q i) := fun l hl => by
      simp only [laid, List.mem_map, List.mem_range] at hl
      obtain ⟨i, hi, rfl⟩ := hl
      exact ⟨i, hi, rfl⟩
    have hnd : ∀ i, (sortL (needC ts) (part (upto ts.length) q i)).Nodup := fun i => (sortL_perm _ _).nodup_iff.2 ((hpart i).imp fun h => by omega)
    have hperm : (laid ts j.lanes.length (upto ts.length) q).flatten.Perm (upto ts.length) := by
      refine perm_of_nodup (List.pairwise_flatten.2 ⟨fun l hl => ?_, ?_⟩) (upto_nodup _) fun x => ?_
      · obtain ⟨i, -, rfl⟩ := hrow l hl
        exact hnd i
      · rw [List.pairwise_iff_getElem]
        intro a b ha hb hab x hx y hy e
        subst e
        rw [hlen] at ha hb
        have h1 := (laid_row (ts := ts) hql ha x).1 (by simpa [List.getD, hlen, ha] using hx)
        have h2 := (laid_row (ts := ts) hql hb x).1 (by simpa [List.getD, hlen, hb] using hy)
        omega
      · rw [List.mem_flatten, mem_upto]
        constructor
        · rintro ⟨l, hl, hx⟩
          obtain ⟨i, hi, rfl⟩ := hrow l hl
          exact ((laid_row (ts := ts) hql hi x).1 (by rw [hget i hi]; exact hx)).1
        · intro hx
          have hi := hqn x.toNat (by omega)
          refine ⟨sortL (needC ts) (part (upto ts.length) q (q.getD x.toNat 0)), ?_, ?_⟩
          · simp only [laid, List.mem_map, List.mem_range]
            exact ⟨_, hi, rfl⟩
          · have := (laid_row (ts := ts) hql hi x).2 ⟨hx, rfl⟩
            rw [hget _ hi] at this
            exact this
    constructor
    · refine right_iff.2 ⟨hlen, hperm, fun l hl => ?_, fun i hi => ?_, hcar⟩
      · have hs := List.sublist_flatten_of_mem hl
        refine ⟨fun x hx => mem_upto.1 (hperm.mem_iff.1 (hs.subset hx)), ?_⟩
        have h5 := hs.length_le
        rw [hperm.length_eq, upto_len] at h5
        exact h5
      · rw [hlen] at hi
        rw [hget i hi]
        unfold laneB
        rw [decide_eq_true (before_falls (sortL_before ts _ (hpart i))), Bool.true_and]
        refine decide_eq_true ?_
        rw [longL_perm (sortL_perm (needC ts) (part (upto ts.length) q i))]
        have h2 := lsum_part ts (upto ts.length) q i
        rw [upto_map] at h2
        rw [← h2]
        have hi6 : i < 6 := by omega
        have hpad : ∀ z, z < j.lanes.length → (pad j.lanes).getD z 0 = j.lanes.getD z 0 := fun z hz => by
          have hz6 : z < 6 := by omega
          simp [pad, List.getD, hz6]
        have := fit_room h6.2 ts _ _ q (by simp [pad]) (fun z hz => by
          rw [hpad z hz]
          have e : j.lanes.getD z 0 = j.lanes[z] := by simp [List.getD, hz]
          rw [e]
          have := hj.lanes _ (List.getElem_mem hz)
          omega) hfit i hi
        rw [hpad i hi] at this
        exact this
    · intro el
      subst el
      obtain ⟨-, f2⟩ := fit_falls h6.2 ts _ _ q (by simp [firstN]) hfit
      unfold loadB
      rw [List.all_eq_true]
      intro l hl
      obtain ⟨i, hi, rfl⟩ := hrow l hl
      have hs : (part (upto ts.length) q i).Pairwise (Before (nkey ts)) := by
        have hm : ∀ x, x ∈ part (upto ts.length) q i → (0 ≤ x ∧ x < ts.length) ∧ q.getD x.toNat 0 = i := fun x hx => by
          rw [map_getD hql, part_filter, List.mem_filter, mem_upto, beq_iff_eq] at hx
          exact hx
        refine List.Pairwise.imp_of_mem (fun {a b} ha hb hab => ?_) (hpart i)
        obtain ⟨⟨a0, a1⟩, a2⟩ := hm a ha
        obtain ⟨⟨b0, b1⟩, b2⟩ := hm b hb
        have := f2 a.toNat b.toNat (by omega) (by omega) (by rw [a2, b2])
        rw [getD_thAt, getD_thAt, Int.toNat_of_nonneg a0, Int.toNat_of_nonneg b0] at this
        unfold Before nkey
        omega
      have he : sortL (needC ts) (part (upto ts.length) q i) = part (upto ts.length) q i :=
        List.Perm.eq_of_pairwise (le := Before (nkey ts)) (fun a b _ _ h1 h2 => by unfold Before at h1 h2; omega) (sortL_before ts _ (hpart i)) hs (sortL_perm _ _)
      rw [he]
      exact decide_eq_true ((hpart i).imp fun h => Int.le_of_lt h)
  · rw [if_neg hcar] at hp
    cases hp
/-! ### taking off -/
/-- the least need -/
def lstN (ts : List Th) (l : List Int) : Int := l.foldl (fun m n => min m (thAt ts n).need) 1001
theorem lstN_snoc (ts : List Th) (l : List Int) (x : Int) : lstN ts (l ++ [x]) = min (lstN ts l) (thAt ts x).need := by unfold lstN; rw [List.foldl_append]; rfl
theorem foldmin_le (f : Int → Int) : ∀ (l : List Int) (m : Int), l.foldl (fun m n => min m (f n)) m ≤ m ∧ (∀ x ∈ l, l.foldl (fun m n => min m (f n)) m ≤ f x) ∧ (l.foldl (fun m n => min m (f n)) m = m ∨ ∃ x ∈ l, l.foldl (fun m n => min m (f n)) m = f x)
  | [], m => ⟨Int.le_refl _, by simp, .inl rfl⟩
  | a :: l, m => by
    obtain ⟨h1, h2, h3⟩ := foldmin_le f l (min m (f a))
    rw [List.foldl_cons]
    refine ⟨by omega, fun x hx => ?_, ?_⟩
    · rcases List.mem_cons.1 hx with rfl | hx
      · omega
      · exact h2 x hx
    · rcases h3 with h3 | ⟨x, hx, h3⟩
      · rw [h3]
        rcases Int.le_total m (f a) with h | h
        · exact .inl (Int.min_eq_left h)
        · exact .inr ⟨a, by simp, Int.min_eq_right h⟩
      · exact .inr ⟨x, by simp [hx], h3⟩
/-- the least need stands at a door -/
theorem at_door {ts : List Th} (hok : ∀ t ∈ ts, t.Ok) {p : List (List Int)} (hin : ∀ l ∈ p, InR ts.length l) (hf : ∀ l ∈ p, Falls ts l) (hne : p.flatten ≠ []) : ∃ i, ∃ (hi : i < p.length), ∃ x, p[i].getLast? = some x ∧ (thAt ts x).need = lstN ts p.flatten := by
  obtain ⟨h1, h2, h3⟩ := foldmin_le (fun n => (thAt ts n).need) p.flatten 1001
  have hex : ∃ x ∈ p.flatten, lstN ts p.flatten = (thAt ts x).need := by
    rcases h3 with h3 | h3
    · obtain ⟨x, hx⟩ := List.exists_mem_of_ne_nil _ hne
      obtain ⟨l, hl, hxl⟩ := List.mem_flatten.1 hx
      have ha := hin l hl x hxl
      have hb := (hok _ (thAt_mem ha.1 ha.2)).need
      have := h2 x hx
      omega
    · exact h3
  obtain ⟨x, hx, he⟩ := hex
  obtain ⟨l, hl, hxl⟩ := List.mem_flatten.1 hx
  obtain ⟨i, hi, rfl⟩ := List.mem_iff_getElem.1 hl
  obtain ⟨y, hy⟩ : ∃ y, p[i].getLast? = some y := by
    cases e : p[i].getLast? with
    | none => rw [List.getLast?_eq_none_iff] at e; rw [e] at hxl; cases hxl
    | some y => exact ⟨y, rfl⟩
  refine ⟨i, hi, y, hy, ?_⟩
  obtain ⟨r, hr⟩ := List.getLast?_eq_some_iff.1 hy
  have hyf : y ∈ p.flatten := List.mem_flatten.2 ⟨p[i], hl, by rw [hr]; simp⟩
  have hge := h2 y hyf
  have hfl := hf _ hl
  rw [hr] at hfl hxl
  have : (thAt ts y).need ≤ (thAt ts x).need := by
    rcases List.mem_append.1 hxl with h5 | h5
    · exact (List.pairwise_append.1 hfl).2.2 x h5 y (by simp)
    · rw [List.mem_singleton.1 h5]; exact Int.le_refl _
  have e2 : lstN ts p.flatten = List.foldl (fun m n => min m (thAt ts n).need) 1001 p.flatten := rfl
  rw [he]
  rw [← e2, he] at hge
  omega
end Go.Wg

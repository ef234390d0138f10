/- Plain: the first packing, and another one. -/
import Derived.Test.YtbpmfaibcibleaaStpP
import Derived.Test.YtbpmfaibcibleaaWhoP
namespace Go.Wg
open Go.RowKit Go.Bs Go.Pl
/-- in which row a number is; -1: in none -/
def laneAt : List (List Int) → Int → Int
  | [], _ => -1
  | l :: p, n => if l.contains n then 0 else if laneAt p n < 0 then -1 else laneAt p n + 1
theorem laneAt_none {n : Int} : ∀ {p : List (List Int)}, (∀ l ∈ p, ¬ n ∈ l) → laneAt p n = -1
  | [], _ => rfl
  | l :: p, h => by
    have h1 : l.contains n = false := by simpa using h l (by simp)
    unfold laneAt
    rw [h1, laneAt_none fun k hk => h k (by simp [hk])]; rfl
theorem laneAt_hit {n : Int} : ∀ {p : List (List Int)} (i : Nat), i < p.length → n ∈ p.getD i [] → (∀ k, k < i → ¬ n ∈ p.getD k []) → laneAt p n = i
  | [], i, h, _, _ => by simp at h
  | l :: p, 0, _, h, _ => by
    have h1 : l.contains n = true := by simpa using h
    unfold laneAt
    rw [h1]; rfl
  | l :: p, i + 1, hi, h, hn => by
    have h1 : l.contains n = false := by simpa using hn 0 (by omega)
    have ih := laneAt_hit (n := n) (p := p) i (by simpa using hi) (by simpa using h) (fun k hk => by simpa using hn (k + 1) (by omega))
    unfold laneAt
    rw [h1, ih, if_neg (by decide), if_neg (by omega)]; rfl
/-- a row for each number -/
theorem laneAt_is {n : Int} {p : List (List Int)} {i : Nat} (hi : i < p.length) (hm : n ∈ p.getD i []) (hu : ∀ k, k < p.length → n ∈ p.getD k [] → k = i) : laneAt p n = i :=
  laneAt_hit i hi hm fun k hk h => by have := hu k (by omega) h; omega
def lsum : List Th → List Nat → Nat → Int
  | t :: r, a :: p, z => (if a = z then t.long else 0) + lsum r p z
  | _, _, _ => 0
theorem lsum_nonneg : ∀ (ts : List Th) (p : List Nat) (z : Nat), (∀ t ∈ ts, 0 ≤ t.long) → 0 ≤ lsum ts p z
  | [], _, _, _ => by simp [lsum]
  | _ :: _, [], _, _ => by simp [lsum]
  | t :: r, a :: p, z, h => by
    have := lsum_nonneg r p z fun x hx => h x (by simp [hx])
    have := h t (by simp)
    unfold lsum
    split <;> omega
theorem fit_sum {nl : Nat} (h6 : nl ≤ 6) {ld : Bool} : ∀ (ts : List Th) (left needs : List Int) (p : List Nat), left.length = 6 → needs.length = 6 → p.length = ts.length → (∀ t ∈ ts, 0 ≤ t.long) →
    (∀ z, z < nl → lsum ts p z ≤ left.getD z 0) → (∀ k, k < ts.length → p.getD k 0 < nl) → (ld = true → ∀ k, k < ts.length → (ts.getD k th0).need ≤ needs.getD (p.getD k 0) 0) →
    (ld = true → ∀ i k, i < k → k < ts.length → p.getD i 0 = p.getD k 0 → (ts.getD k th0).need ≤ (ts.getD i th0).need) → fitP nl ld ts left needs p
  | [], _, _, [], _, _, _, _, _, _, _, _ => trivial
  | [], _, _, _ :: _, _, _, h, _, _, _, _, _ => by simp at h
  | _ :: _, _, _, [], _, _, h, _, _, _, _, _ => by simp at h
  | t :: r, left, needs, a :: p, hl, hn, hp, h0, hr, hk, hd, hf => by
    have a1 := hk 0 (by simp)
    simp only [List.getD_cons_zero] at a1
    have hsum := hr a a1
    unfold lsum at hsum
    rw [if_pos rfl] at hsum
    have hnn := lsum_nonneg r p a fun x hx => h0 x (by simp [hx])
    have ht := h0 t (by simp)
    refine ⟨a1, ?_, fit_sum h6 r _ _ p ?_ ?_ (by simpa using hp) (fun x hx => h0 x (by simp [hx])) ?_ ?_ ?_ ?_⟩
    · unfold canB
      rw [Bool.and_eq_true, decide_eq_true_eq]
      refine ⟨?_, by omega⟩
      cases ld with
      | false => rfl
      | true =>
        have := hd rfl 0 (by simp)
        simpa using this
    · unfold stepL; rw [List.length_set]; exact hl
    · unfold stepN; split
      · rw [List.length_set]; exact hn
      · exact hn
    · intro z hz
      have := hr z hz
      unfold lsum at this
      unfold stepL
      by_cases e : a = z
      · subst e; rw [getD_set_same _ _ _ _ (by omega)]; rw [if_pos rfl] at this; omega
      · rw [getD_set_other _ _ _ _ _ e]; rw [if_neg e] at this; omega
    · intro k hk'
      have := hk (k + 1) (by simp; omega)
      simpa using this
    · intro el k hk'
      have b2 := hd el (k + 1) (by simp; omega)
      simp only [List.getD_cons_succ] at b2
      unfold stepN
      rw [if_pos el]
      by_cases e : a = p.getD k 0
      · rw [← e, getD_set_same _ _ _ _ (by omega)]
        have := hf el 0 (k + 1) (by omega) (by simp; omega) (by simpa using e)
        simpa using this
      · rw [getD_set_other _ _ _ _ _ e]; exact b2
    · intro el i k hik hk' e
      have := hf el (i + 1) (k + 1) (by omega) (by simp; omega) (by simpa using e)
      simpa using this
theorem lsum_part (ts : List Th) : ∀ (l : List Int) (p : List Nat) (z : Nat), lsum (l.map (thAt ts)) p z = longL ts (part l p z)
  | [], p, z => by cases p <;> simp [lsum, part, longL, isum]
  | n :: l, [], z => by simp [lsum, part, longL, isum]
  | n :: l, a :: p, z => by
    rw [part_cons, List.map_cons]
    unfold lsum
    rw [lsum_part ts l p z]
    by_cases e : a = z
    · rw [if_pos e, if_pos e]; rfl
    · rw [if_neg e, if_neg e]; omega
theorem perm_of_nodup {a b : List Int} (ha : a.Nodup) (hb : b.Nodup) (h : ∀ x, x ∈ a ↔ x ∈ b) : a.Perm b := by
  refine List.perm_iff_count.2 fun x => ?_
  have h1 := List.nodup_iff_count.1 ha x
  have h2 := List.nodup_iff_count.1 hb x
  by_cases hx : x ∈ a
  · have h3 := List.count_pos_iff.2 hx
    have h4 := List.count_pos_iff.2 ((h x).1 hx)
    omega
  · rw [List.count_eq_zero_of_not_mem hx, List.count_eq_zero_of_not_mem (fun e => hx ((h x).2 e))]
theorem part_filter (f : Int → Nat) (z : Nat) : ∀ l : List Int, part l (l.map f) z = l.filter fun x => f x == z
  | [] => rfl
  | n :: l => by
    rw [List.map_cons, part_cons, part_filter f z l]
    by_cases e : f n = z
    · rw [if_pos e, List.filter_cons_of_pos (by simpa using e)]
    · rw [if_neg e, List.filter_cons_of_neg (by simpa using e)]
/-- what is right: each number in one row -/
theorem right_row {j : Lo} {ts : List Th} {p : List (List Int)} (h : RightP j ts p) {x : Int} (h0 : 0 ≤ x) (h1 : x < ts.length) : ∃ i, i < p.length ∧ x ∈ p.getD i [] ∧ ∀ k, k < p.length → x ∈ p.getD k [] → k = i := by
  have hm : x ∈ p.flatten := h.perm.mem_iff.2 (mem_upto.2 ⟨h0, h1⟩)
  obtain ⟨l, hl, hx⟩ := List.mem_flatten.1 hm
  obtain ⟨i, hi, rfl⟩ := List.mem_iff_getElem.1 hl
  refine ⟨i, hi, by simpa [List.getD, hi] using hx, fun k hk hxk => ?_⟩
  have hnd : p.flatten.Nodup := h.perm.nodup_iff.2 (upto_nodup _)
  have hpw := (List.pairwise_flatten.1 hnd).2
  have hxk' : x ∈ p[k] := by simpa [List.getD, hk] using hxk
  rcases Nat.lt_trichotomy k i with hlt | e | hgt
  · exact absurd rfl (List.pairwise_iff_getElem.1 hpw k i hk hi hlt x hxk' x hx)
  · exact e
  · exact absurd rfl (List.pairwise_iff_getElem.1 hpw i k hi hk hgt x hx x hxk')
theorem falls_of {ts : List Th} : ∀ {l : List Int}, Rises l → Falls ts l → ∀ a b, a ∈ l → b ∈ l → a < b → (thAt ts b).need ≤ (thAt ts a).need
  | [], _, _, a, _, ha, _, _ => by cases ha
  | x :: l, hr, hf, a, b, ha, hb, hab => by
    obtain ⟨r1, r2⟩ := List.pairwise_cons.1 hr
    obtain ⟨f1, f2⟩ := List.pairwise_cons.1 hf
    rcases List.mem_cons.1 ha with ea | ha
    · rcases List.mem_cons.1 hb with eb | hb
      · omega
      · rw [ea]; exact f1 b hb
    · rcases List.mem_cons.1 hb with eb | hb
      · have := r1 a ha; omega
      · exact falls_of r2 f2 a b ha hb hab
/-- the lanes of the things of a packing -/
def lanesOf (p : List (List Int)) (n : Nat) : List Nat := (upto n).map fun x => (laneAt p x).toNat
theorem lanesOf_get {p : List (List Int)} {n k : Nat} (hk : k < n) : (lanesOf p n).getD k 0 = (laneAt p (k : Int)).toNat := by simp [lanesOf, upto, List.getD, hk]
theorem right_fit {j : Lo} {ts : List Th} {p : List (List Int)} {ld : Bool} (hj : j.Ok) (hok : ∀ t ∈ ts, t.Ok) (h : RightP j ts p) (hl : ld = true → loadB p = true) : fitP j.lanes.length ld ts (pad j.lanes) (firstN j.lanes.length) (lanesOf p ts.length) := by
  have h6 := hj.many
  have hlane : ∀ k, k < ts.length → ∃ i, i < p.length ∧ laneAt p (k : Int) = i ∧ (k : Int) ∈ p.getD i [] ∧ ∀ z, z < p.length → (k : Int) ∈ p.getD z [] → z = i := fun k hk => by
    obtain ⟨i, h1, h2, h3⟩ := right_row h (x := k) (by omega) (by omega)
    exact ⟨i, h1, laneAt_is h1 h2 h3, h2, h3⟩
  refine fit_sum h6.2 ts _ _ _ (by simp [pad]) (by simp [firstN]) (by simp [lanesOf, upto_len]) (fun t ht => by have := (hok t ht).long; omega) ?_ ?_ ?_ ?_
  · intro z hz
    have hz6 : z < 6 := by omega
    have e : (pad j.lanes).getD z 0 = j.lanes.getD z 0 := by simp [pad, List.getD, hz6]
    have hzp : z < p.length := by rw [h.many]; exact hz
    have hB := h.lane z hzp
    unfold laneB at hB
    rw [Bool.and_eq_true, decide_eq_true_eq, decide_eq_true_eq] at hB
    rw [e]
    refine Int.le_trans (Int.le_of_eq ?_) hB.2
    have h2 := lsum_part ts (upto ts.length) (lanesOf p ts.length) z
    rw [upto_map] at h2
    rw [h2]
    unfold lanesOf
    rw [part_filter]
    have hnd : p.flatten.Nodup := h.perm.nodup_iff.2 (upto_nodup _)
    have hmem : p.getD z [] ∈ p := by simp [List.getD, hzp]
    refine longL_perm (perm_of_nodup ((upto_nodup _).sublist List.filter_sublist) ((List.sublist_flatten_of_mem hmem).nodup hnd) fun x => ?_)
    rw [List.mem_filter, mem_upto, beq_iff_eq]
    constructor
    · rintro ⟨⟨h3, h4⟩, h5⟩
      obtain ⟨k, rfl⟩ : ∃ k : Nat, x = k := ⟨x.toNat, by omega⟩
      obtain ⟨i, i1, i2, i3, -⟩ := hlane k (by omega)
      rw [i2] at h5
      simp only [Int.toNat_natCast] at h5
      rw [← h5]; exact i3
    · intro hx
      have h3 := (h.inR _ hmem).1 x hx
      obtain ⟨k, rfl⟩ : ∃ k : Nat, x = k := ⟨x.toNat, by omega⟩
      refine ⟨h3, ?_⟩
      obtain ⟨i, i1, i2, -, i4⟩ := hlane k (by omega)
      rw [i2, ← i4 z hzp hx]; simp
  · intro k hk
    rw [lanesOf_get hk]
    obtain ⟨i, i1, i2, -, -⟩ := hlane k hk
    rw [i2]
    have := h.many
    simp only [Int.toNat_natCast]; omega
  · intro _ k hk
    rw [lanesOf_get hk]
    obtain ⟨i, i1, i2, -, -⟩ := hlane k hk
    rw [i2]
    have hm := h.many
    simp only [Int.toNat_natCast]
    have h5 : i < 6 := by omega
    have hil : i < j.lanes.length := by omega
    have e : (firstN j.lanes.length).getD i 0 = 1000 := by simp [firstN, List.getD, h5, hil]
    rw [e, getD_thAt, thAt_eq hk]
    exact (hok _ (List.getElem_mem hk)).need.2
  · intro el i k hik hk e
    rw [lanesOf_get (by omega), lanesOf_get hk] at e
    obtain ⟨z, z1, z2, z3, -⟩ := hlane i (by omega)
    obtain ⟨y, y1, y2, y3, -⟩ := hlane k hk
    rw [z2, y2] at e
    simp only [Int.toNat_natCast] at e
    subst e
    have hmem : p.getD z [] ∈ p := by simp [List.getD, z1]
    have hR := of_decide_eq_true (List.all_eq_true.1 (hl el) _ hmem)
    have hB := h.lane z z1
    unfold laneB at hB
    rw [Bool.and_eq_true, decide_eq_true_eq, decide_eq_true_eq] at hB
    rw [getD_thAt, getD_thAt]
    exact falls_of hR hB.1 _ _ z3 y3 (by omega)
/-- the lanes of the first packing are the search's -/
theorem laid_lane {ts : List Th} {nl n : Nat} {q : List Nat} (hq : q.length = n) (hnl : ∀ k, k < n → q.getD k 0 < nl) {k : Nat} (hk : k < n) : laneAt (laid ts nl (upto n) q) (k : Int) = (q.getD k 0 : Nat) := by
  have hmap : q = (upto n).map fun x => q.getD x.toNat 0 := by
    apply List.ext_getElem?
    intro i
    by_cases hi : i < n
    · simp [upto, List.getD, hi, hq]
    · simp [upto, hi, hq]
  have hrow : ∀ i, i < nl → ∀ x : Int, (x ∈ (laid ts nl (upto n) q).getD i [] ↔ (0 ≤ x ∧ x < n) ∧ q.getD x.toNat 0 = i) := by
    intro i hi x
    have e : (laid ts nl (upto n) q).getD i [] = sortL (needC ts) (part (upto n) q i) := by simp [laid, List.getD, hi]
    rw [e, (sortL_perm _ _).mem_iff]
    conv => lhs; rw [hmap]
    rw [part_filter, List.mem_filter, mem_upto, beq_iff_eq]
  have hll : (laid ts nl (upto n) q).length = nl := by simp [laid]
  refine laneAt_is (by rw [hll]; exact hnl k hk) ((hrow _ (hnl k hk) _).2 ⟨by omega, by simp⟩) fun z hz hx => ?_
  rw [hll] at hz
  have := ((hrow z hz _).1 hx).2
  simpa using this.symm
/-- how the law compares -/
theorem lex_head {a b : Nat} {p q : List Nat} (h : LexLe (a :: p) (b :: q)) : a < b ∨ (a = b ∧ LexLe p q) := by
  cases h with
  | same => exact .inr ⟨rfl, .same _⟩
  | less _ _ _ _ h => exact .inl h
  | next _ _ _ h => exact .inr ⟨rfl, h⟩
theorem lex_len : ∀ {p q : List Nat}, LexLe p q → p.length = q.length → ∀ k, k < p.length → (∀ i, i < k → p.getD i 0 = q.getD i 0) → p.getD k 0 ≤ q.getD k 0
  | _, _, .same _, _, k, _, _ => Nat.le_refl _
  | a :: p, b :: q, .less _ _ _ _ h, _, k, hk, he => by
    rcases k with _ | k
    · simpa using Nat.le_of_lt h
    · have := he 0 (by omega)
      simp at this; omega
  | a :: p, _ :: q, .next _ _ _ h, hl, k, hk, he => by
    rcases k with _ | k
    · simp
    · have := lex_len h (by simpa using hl) k (by simpa using hk) (fun i hi => by simpa using he (i + 1) (by omega))
      simpa using this
/-- what the law First asks -/
theorem first_plain {j : Lo} {ts : List Th} {p : List (List Int)} {ld : Bool} (h0 : checkE j ts = 0) (hr : rightB j ts p = true) (hl : ld = true → loadB p = true) :
    (packRes j ts ld).2 = 0 ∧ ∀ k, k < ts.length → 0 ≤ laneAt (packRes j ts ld).1 (k : Int) ∧ 0 ≤ laneAt p (k : Int) ∧ ((∀ i, i < k → laneAt (packRes j ts ld).1 (i : Int) = laneAt p (i : Int)) → laneAt (packRes j ts ld).1 (k : Int) ≤ laneAt p (k : Int)) := by
  obtain ⟨hj, -, hok⟩ := checkE_zero.1 h0
  have hR := right_iff.1 hr
  obtain ⟨q, hq, hle⟩ := srch_least ts _ _ _ (right_fit hj hok hR hl)
  have hpk : packL j ts (upto ts.length) ld = some (laid ts j.lanes.length (upto ts.length) q) := by
    unfold packL
    rw [if_pos hR.car, upto_map, hq]; rfl
  have hres : packRes j ts ld = (laid ts j.lanes.length (upto ts.length) q, 0) := by
    unfold packRes
    rw [if_neg (not_not_intro h0), hpk]
  rw [hres]
  have hql := srch_len _ _ _ _ hq
  have hfit := srch_fit _ _ _ _ hq
  have hqn : ∀ k, k < ts.length → q.getD k 0 < j.lanes.length := by
    have key : ∀ (us : List Th) (left needs : List Int) (r : List Nat), fitP j.lanes.length ld us left needs r → ∀ k, k < us.length → r.getD k 0 < j.lanes.length := by
      intro us
      induction us with
      | nil => intro _ _ _ _ k hk; simp at hk
      | cons t us ih =>
        intro left needs r hf k hk
        cases r with
        | nil => exact hf.elim
        | cons a r =>
          rcases k with _ | k
          · exact hf.1
          · have := ih _ _ r hf.2.2 k (by simpa using hk)
            simpa using this
    exact key ts _ _ q hfit
  refine ⟨rfl, fun k hk => ?_⟩
  have hll : ∀ i, i < ts.length → laneAt (laid ts j.lanes.length (upto ts.length) q) (i : Int) = (q.getD i 0 : Nat) := fun i hi => laid_lane hql hqn hi
  have hlp : ∀ i, i < ts.length → 0 ≤ laneAt p (i : Int) := fun i hi => by
    obtain ⟨z, h1, h2, h3⟩ := right_row hR (x := i) (by omega) (by omega)
    rw [laneAt_is h1 h2 h3]; omega
  rw [hll k hk]
  refine ⟨by omega, hlp k hk, fun he => ?_⟩
  have hlen : q.length = (lanesOf p ts.length).length := by rw [hql]; simp [lanesOf, upto_len]
  have := lex_len hle hlen k (by rw [hql]; exact hk) (fun i hi => by
    rw [lanesOf_get (by omega)]
    have h1 := he i hi
    rw [hll i (by omega)] at h1
    omega)
  rw [lanesOf_get hk] at this
  have := hlp k hk
  omega
end Go.Wg

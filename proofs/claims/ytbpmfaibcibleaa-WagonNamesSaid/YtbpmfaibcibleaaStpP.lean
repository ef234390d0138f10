/- Plain: climbs and lanes. -/
import Derived.Test.YtbpmfaibcibleaaClbS
import Derived.Test.YtbpmfaibcibleaaSeaG
import Derived.Test.YtbpmfaibcibleaaRefP
namespace Go.Wg
open Go.RowKit Go.Bs Go.Pl
theorem scanC_ge {ts : List Th} {g : Nat → Int} (need : Int) (i : Nat) : ∀ m k, i ≤ k → k < i + m → need < (thAt ts (k : Int)).need → g k ≤ (scanC ts g need i m).1
  | 0, k, h1, h2, _ => by omega
  | m + 1, k, h1, h2, h3 => by
    unfold scanC stpC
    by_cases e : k = i + m
    · subst e
      by_cases h : (scanC ts g need i m).1 < g (i + m)
      · rw [if_pos ⟨h3, h⟩]; exact Int.le_refl _
      · rw [if_neg (fun x => h x.2)]; omega
    · have ih := scanC_ge (g := g) need i m k h1 (by omega) h3
      split
      · rename_i hc
        have := hc.2
        show g k ≤ g (i + m)
        omega
      · exact ih
theorem clm_ok (ts : List Th) (g : Nat → Int) : ∀ (d i : Nat) (need : Int), i + d = ts.length → (∀ x ∈ clm ts g i need, (i : Int) ≤ x ∧ x < (ts.length : Int) ∧ need < (thAt ts x).need) ∧ Climbs ts (clm ts g i need)
  | d, i, need, h => by
    by_cases h0 : (scanC ts g need i (ts.length - i)).1 = 0
    · rw [clm_end h0]
      exact ⟨by simp, List.Pairwise.nil⟩
    · obtain ⟨k, e, h1, h2, h3, -⟩ := scanC_hit need i _ h0
      rw [clm_step (by omega) h0 e]
      obtain ⟨ih1, ih2⟩ := clm_ok ts g (ts.length - (k + 1)) (k + 1) (thAt ts (k : Int)).need (by omega)
      refine ⟨fun x hx => ?_, List.pairwise_cons.2 ⟨fun x hx => ?_, ih2⟩⟩
      · rcases List.mem_cons.1 hx with rfl | hx
        · exact ⟨by omega, by omega, h3⟩
        · have := ih1 x hx
          omega
      · have := ih1 x hx
        omega
termination_by d => d
decreasing_by omega
theorem climbL_climb {ts : List Th} : climbB ts (climbL ts) = true := by
  obtain ⟨h1, h2⟩ := clm_ok ts (lng ts) ts.length 0 (-1) (by omega)
  exact climbB_iff.2 ⟨fun x hx => by have := h1 x hx; omega, h2⟩
theorem climb_le {ts : List Th} : ∀ (l : List Int) (i : Nat) (need : Int), i ≤ ts.length → (∀ x ∈ l, (i : Int) ≤ x ∧ x < (ts.length : Int) ∧ need < (thAt ts x).need) → Climbs ts l → (l.length : Int) ≤ (scanC ts (lng ts) need i (ts.length - i)).1
  | [], i, need, _, _, _ => (scanC_bd (ts := ts) (g := lng ts) (B := ts.length) (fun k => (lngT_bd ts ts.length ts.length k).2) (by omega) need i _).1
  | x :: r, i, need, hi, h, hc => by
    obtain ⟨h1, h2, h3⟩ := h x (by simp)
    obtain ⟨k, rfl⟩ : ∃ k : Nat, x = k := ⟨x.toNat, by omega⟩
    obtain ⟨c1, c2⟩ := List.pairwise_cons.1 hc
    have ih := climb_le r (k + 1) (thAt ts (k : Int)).need (by omega) (fun y hy => by
      have a := c1 y hy
      have b := h y (by simp [hy])
      omega) c2
    have hl := lng_eq (ts := ts) (k := k) (by omega)
    have hg := scanC_ge (g := lng ts) need i (ts.length - i) k (by omega) (by omega) h3
    simp only [List.length_cons]
    omega
theorem climb_most {ts : List Th} (hok : ∀ t ∈ ts, t.Ok) {l : List Int} (h : climbB ts l = true) : l.length ≤ (climbL ts).length := by
  obtain ⟨h1, h2⟩ := climbB_iff.1 h
  have a := climb_le l 0 (-1) (by omega) (fun x hx => by
    have b := h1 x hx
    have c := (hok _ (thAt_mem b.1 b.2)).need
    omega) h2
  have b := clm_len ts ts.length 0 (-1) (by omega)
  have e : climbL ts = clm ts (lng ts) 0 (-1) := rfl
  rw [e]; omega
theorem pigeon : ∀ (n : Nat) (l : List Nat), l.Nodup → (∀ x ∈ l, x < n) → l.length ≤ n
  | 0, l, _, h => by
    cases l with
    | nil => simp
    | cons a l => exact absurd (h a (by simp)) (by omega)
  | n + 1, l, hn, h => by
    by_cases hm : n ∈ l
    · have e := List.length_erase_of_mem hm
      have ih := pigeon n (l.erase n) (hn.erase n) fun x hx => by
        have h1 := (hn.mem_erase_iff).1 hx
        have h2 := h x h1.2
        have h3 := h1.1
        omega
      omega
    · have ih := pigeon n l hn fun x hx => by
        have h2 := h x hx
        have : x ≠ n := fun e => hm (e ▸ hx)
        omega
      omega
/-- what stands in one lane falls, where it was loaded in this order -/
theorem fit_falls {nl : Nat} (h6 : nl ≤ 6) : ∀ (ts : List Th) (left needs : List Int) (p : List Nat), needs.length = 6 → fitP nl true ts left needs p →
    (∀ k, k < ts.length → p.getD k 0 < nl ∧ (ts.getD k th0).need ≤ needs.getD (p.getD k 0) 0) ∧ ∀ i k, i < k → k < ts.length → p.getD i 0 = p.getD k 0 → (ts.getD k th0).need ≤ (ts.getD i th0).need
  | [], _, _, [], _, _ => ⟨by simp, by simp⟩
  | [], _, _, _ :: _, _, h => h.elim
  | _ :: _, _, _, [], _, h => h.elim
  | t :: r, left, needs, a :: p, hn, h => by
    obtain ⟨h1, h2, h3⟩ := h
    unfold canB at h2
    simp only [Bool.not_true, Bool.false_or, Bool.and_eq_true, decide_eq_true_eq] at h2
    have hs : (stepN true t needs a).length = 6 := by unfold stepN; rw [if_pos rfl, List.length_set]; exact hn
    obtain ⟨i1, i2⟩ := fit_falls h6 r _ _ p hs h3
    have hget : ∀ z, (stepN true t needs a).getD z 0 = if a = z then t.need else needs.getD z 0 := by
      intro z
      unfold stepN
      rw [if_pos rfl]
      by_cases e : a = z
      · subst e; rw [if_pos rfl, getD_set_same _ _ _ _ (by omega)]
      · rw [if_neg e, getD_set_other _ _ _ _ _ e]
    have hle : ∀ k, k < r.length → (r.getD k th0).need ≤ needs.getD (p.getD k 0) 0 := fun k hk => by
      have := (i1 k hk).2
      rw [hget] at this
      by_cases e : a = p.getD k 0
      · rw [if_pos e] at this; rw [← e]; omega
      · rw [if_neg e] at this; exact this
    constructor
    · intro k hk
      rcases k with _ | k
      · exact ⟨h1, h2.1⟩
      · have hk' : k < r.length := by simp at hk; omega
        exact ⟨(i1 k hk').1, hle k hk'⟩
    · intro i k hik hk e
      rcases k with _ | k
      · omega
      · have hk' : k < r.length := by simp at hk; omega
        rcases i with _ | i
        · have := (i1 k hk').2
          rw [hget, if_pos (show a = p.getD k 0 from e)] at this
          exact this
        · exact i2 i k (by omega) hk' e
theorem longs_cons (t : Th) (r : List Th) : isum ((t :: r).map Th.long) = t.long + isum (r.map Th.long) := rfl
theorem longs_nonneg : ∀ (r : List Th), (∀ t ∈ r, 0 ≤ t.long) → 0 ≤ isum (r.map Th.long)
  | [], _ => Int.le_refl _
  | t :: r, h => by
    have := longs_nonneg r fun x hx => h x (by simp [hx])
    have := h t (by simp)
    rw [longs_cons]; omega
/-- where each lane has room for all -/
theorem fit_of {nl : Nat} (h6 : nl ≤ 6) : ∀ (ts : List Th) (left needs : List Int) (p : List Nat), left.length = 6 → needs.length = 6 → p.length = ts.length → (∀ t ∈ ts, 0 ≤ t.long) →
    (∀ z, z < nl → isum (ts.map Th.long) ≤ left.getD z 0) → (∀ k, k < ts.length → p.getD k 0 < nl ∧ (ts.getD k th0).need ≤ needs.getD (p.getD k 0) 0) →
    (∀ i k, i < k → k < ts.length → p.getD i 0 = p.getD k 0 → (ts.getD k th0).need ≤ (ts.getD i th0).need) → fitP nl true ts left needs p
  | [], _, _, [], _, _, _, _, _, _, _ => trivial
  | [], _, _, _ :: _, _, _, h, _, _, _, _ => by simp at h
  | _ :: _, _, _, [], _, _, h, _, _, _, _ => by simp at h
  | t :: r, left, needs, a :: p, hl, hn, hp, h0, hr, hk, hf => by
    obtain ⟨a1, a2⟩ := hk 0 (by simp)
    simp only [List.getD_cons_zero] at a1 a2
    have hsum := hr a a1
    rw [longs_cons] at hsum
    have hnn := longs_nonneg r fun x hx => h0 x (by simp [hx])
    have ht := h0 t (by simp)
    refine ⟨a1, ?_, fit_of h6 r _ _ p ?_ ?_ (by simpa using hp) (fun x hx => h0 x (by simp [hx])) ?_ ?_ ?_⟩
    · unfold canB
      simp only [Bool.not_true, Bool.false_or, Bool.and_eq_true, decide_eq_true_eq]
      omega
    · unfold stepL; rw [List.length_set]; exact hl
    · unfold stepN; rw [if_pos rfl, List.length_set]; exact hn
    · intro z hz
      have := hr z hz
      rw [longs_cons] at this
      unfold stepL
      by_cases e : a = z
      · subst e; rw [getD_set_same _ _ _ _ (by omega)]; omega
      · rw [getD_set_other _ _ _ _ _ e]; omega
    · intro k hk'
      obtain ⟨b1, b2⟩ := hk (k + 1) (by simp; omega)
      simp only [List.getD_cons_succ] at b1 b2
      refine ⟨b1, ?_⟩
      unfold stepN
      rw [if_pos rfl]
      by_cases e : a = p.getD k 0
      · rw [← e, getD_set_same _ _ _ _ (by omega)]
        have := hf 0 (k + 1) (by omega) (by simp; omega) (by simpa using e)
        simpa using this
      · rw [getD_set_other _ _ _ _ _ e]; exact b2
    · intro i k hik hk' e
      have := hf (i + 1) (k + 1) (by omega) (by simp; omega) (by simpa using e)
      simpa using this
theorem upto_map (ts : List Th) : (upto ts.length).map (thAt ts) = ts := by
  apply List.ext_getElem?
  intro i
  unfold upto
  by_cases h : i < ts.length
  · simp [h, thAt, List.getD]
  · simp [h]
theorem getD_thAt (ts : List Th) (k : Nat) : ts.getD k th0 = thAt ts (k : Int) := by simp [thAt]
/-- a climb with more things than lanes: nothing can be loaded -/
theorem climb_none {j : Lo} {ts : List Th} (h6 : j.lanes.length ≤ 6) {l : List Int} (hc : climbB ts l = true) (hl : j.lanes.length < l.length) : packL j ts (upto ts.length) true = none := by
  unfold packL
  rw [upto_map]
  by_cases hcar : carB j ts (upto ts.length) = true
  · rw [if_pos hcar]
    cases hs : srch j.lanes.length true ts (pad j.lanes) (firstN j.lanes.length) with
    | none => rfl
    | some p =>
      exfalso
      obtain ⟨f1, f2⟩ := fit_falls h6 ts _ _ p (by simp [firstN]) (srch_fit _ _ _ _ hs)
      obtain ⟨c1, c2⟩ := climbB_iff.1 hc
      have hnd : (l.map fun x => p.getD x.toNat 0).Nodup := by
        refine List.pairwise_map.2 (List.Pairwise.imp_of_mem (fun {a b} ha hb hab => ?_) c2)
        obtain ⟨x, rfl⟩ : ∃ x : Nat, a = x := ⟨a.toNat, by have := c1 a ha; omega⟩
        obtain ⟨y, rfl⟩ : ∃ y : Nat, b = y := ⟨b.toNat, by have := c1 b hb; omega⟩
        have hb' := c1 _ hb
        simp only [Int.toNat_natCast]
        intro e
        have := f2 x y (by omega) (by omega) e
        rw [getD_thAt, getD_thAt] at this
        omega
      have := pigeon j.lanes.length _ hnd (fun z hz => by
        obtain ⟨x, hx, rfl⟩ := List.mem_map.1 hz
        have := c1 x hx
        exact (f1 x.toNat (by omega)).1)
      rw [List.length_map] at this
      omega
  · rw [if_neg hcar]
theorem lng_le_climb {ts : List Th} (hok : ∀ t ∈ ts, t.Ok) {k : Nat} (hk : k < ts.length) : lng ts k ≤ ((climbL ts).length : Int) := by
  have h := (hok _ (List.getElem_mem hk)).need
  have hg := scanC_ge (ts := ts) (g := lng ts) (-1) 0 (ts.length - 0) k (by omega) (by omega) (by rw [thAt_eq hk]; omega)
  have b := clm_len ts ts.length 0 (-1) (by omega)
  have e : climbL ts = clm ts (lng ts) 0 (-1) := rfl
  rw [e]; omega
/-- no longer climb than there are lanes, and room: something can be loaded -/
theorem climb_some {j : Lo} {ts : List Th} (hj : j.Ok) (hok : ∀ t ∈ ts, t.Ok) (hl : (climbL ts).length ≤ j.lanes.length) (hr : ∀ z ∈ j.lanes, isum (ts.map Th.long) ≤ z) (hcar : carB j ts (upto ts.length) = true) : (packL j ts (upto ts.length) true).isSome = true := by
  have h6 := hj.many
  unfold packL
  rw [if_pos hcar, upto_map, Option.isSome_map]
  have hfit : fitP j.lanes.length true ts (pad j.lanes) (firstN j.lanes.length) ((List.range ts.length).map fun k => (lng ts k - 1).toNat) := by
    have hg : ∀ k, k < ts.length → ((List.range ts.length).map fun k => (lng ts k - 1).toNat).getD k 0 = (lng ts k - 1).toNat := fun k hk => by simp [List.getD, hk]
    refine fit_of h6.2 ts _ _ _ (by simp [pad]) (by simp [firstN]) (by simp) (fun t ht => by have := (hok t ht).long; omega) ?_ ?_ ?_
    · intro z hz
      have hz6 : z < 6 := by omega
      have e : (pad j.lanes).getD z 0 = j.lanes[z] := by simp [pad, List.getD, hz6, hz]
      rw [e]
      exact hr _ (List.getElem_mem hz)
    · intro k hk
      rw [hg k hk]
      have h1 := lng_le_climb hok hk
      have h2 := lng_eq hk
      have h3 := (scanC_bd (ts := ts) (g := lng ts) (B := ts.length) (fun k => (lngT_bd ts ts.length ts.length k).2) (by omega) (thAt ts (k : Int)).need (k + 1) (ts.length - (k + 1))).1
      have hlt : (lng ts k - 1).toNat < j.lanes.length := by omega
      refine ⟨hlt, ?_⟩
      have h5 : (lng ts k - 1).toNat < 6 := by omega
      have e : (firstN j.lanes.length).getD (lng ts k - 1).toNat 0 = 1000 := by
        generalize (lng ts k - 1).toNat = z at *
        simp [firstN, List.getD, h5, hlt]
      rw [e, getD_thAt, thAt_eq hk]
      exact (hok _ (List.getElem_mem hk)).need.2
    · intro i k hik hk e
      rw [hg i (by omega), hg k hk] at e
      rw [getD_thAt, getD_thAt]
      have hi := lng_eq (ts := ts) (k := i) (by omega)
      have hkk := lng_eq hk
      have bi := (scanC_bd (ts := ts) (g := lng ts) (B := ts.length) (fun k => (lngT_bd ts ts.length ts.length k).2) (by omega) (thAt ts (i : Int)).need (i + 1) (ts.length - (i + 1))).1
      have bk := (scanC_bd (ts := ts) (g := lng ts) (B := ts.length) (fun k => (lngT_bd ts ts.length ts.length k).2) (by omega) (thAt ts (k : Int)).need (k + 1) (ts.length - (k + 1))).1
      refine Int.not_lt.1 fun hlt => ?_
      have := scanC_ge (ts := ts) (g := lng ts) (thAt ts (i : Int)).need (i + 1) (ts.length - (i + 1)) k (by omega) (by omega) hlt
      omega
  obtain ⟨p, hp, -⟩ := srch_least ts _ _ _ hfit
  rw [hp]; rfl
/-- the error of packed -/
def loadC2 (j : Lo) (ts : List Th) (ld : Bool) : Int := if (packL j ts (upto ts.length) ld).isSome then 0 else 7
theorem packRes_code {j : Lo} {ts : List Th} {ld : Bool} (h : checkE j ts = 0) : (packRes j ts ld).2 = loadC2 j ts ld := by
  unfold packRes loadC2
  rw [if_neg (not_not_intro h)]
  cases packL j ts (upto ts.length) ld <;> rfl
end Go.Wg

/- Plain: the document's search for the first packing is the program's. -/
import Derived.Test.YtbpmfaibcibleaaWagP
namespace Go.Wg
open Go.Pl
theorem findSome_filter {α : Type} (p : Nat → Bool) (f : Nat → Option α) : ∀ l : List Nat, (l.filter p).findSome? f = l.findSome? fun i => if p i then f i else none
  | [] => rfl
  | a :: l => by
    by_cases h : p a = true
    · rw [List.filter_cons_of_pos h, List.findSome?_cons, List.findSome?_cons, findSome_filter p f l, if_pos h]
    · rw [List.filter_cons_of_neg h, findSome_filter p f l, List.findSome?_cons, if_neg h]
/-- may a thing go to a lane -/
def rcan (lanes : List Int) (ts : List Th) (ld : Bool) (n : Int) (now : List (List Int)) (i : Nat) : Bool :=
  decide ((thAt ts n).long ≤ lanes.getD i 0 - longL ts (now.getD i [])) && (!ld || ((now.getD i []).getLast?.all fun s => decide ((thAt ts n).need ≤ (thAt ts s).need)))
def refp (lanes : List Int) (ts : List Th) (ld : Bool) : List Int → List (List Int) → Option (List (List Int))
  | [], now => some now
  | n :: r, now => (List.range now.length).findSome? fun i => if rcan lanes ts ld n now i then refp lanes ts ld r (now.set i (ins1 (needC ts) (now.getD i []) n)) else none
theorem part_nil (p : List Nat) (i : Nat) : part [] p i = [] := rfl
theorem part_cons (n : Int) (r : List Int) (k : Nat) (p : List Nat) (i : Nat) : part (n :: r) (k :: p) i = if k = i then n :: part r p i else part r p i := by
  unfold part
  rw [List.zip_cons_cons]
  by_cases h : k = i
  · rw [List.filter_cons_of_pos (by simpa using h), if_pos h]; rfl
  · rw [List.filter_cons_of_neg (by simpa using h), if_neg h]
/-- how the rows and the rooms stand -/
structure Stand (lanes : List Int) (ts : List Th) (ld : Bool) (now : List (List Int)) (left needs : List Int) : Prop where
  hl : left.length = 6
  hn : needs.length = 6
  h6 : now.length ≤ 6
  room : ∀ i, i < now.length → left.getD i 0 = lanes.getD i 0 - longL ts (now.getD i [])
  last : ld = true → ∀ i, i < now.length → ∀ s, (now.getD i []).getLast? = some s → needs.getD i 0 = (thAt ts s).need
  none : ld = true → ∀ i, i < now.length → now.getD i [] = [] → needs.getD i 0 = 1000
theorem longL_perm {ts : List Th} {a b : List Int} (h : a.Perm b) : longL ts a = longL ts b := by
  unfold longL
  induction h with
  | nil => rfl
  | cons x _ ih => simp only [List.map_cons, isum, ih]
  | swap x y l => simp only [List.map_cons, isum]; omega
  | trans _ _ h1 h2 => rw [h1, h2]
theorem ins1_last {ts : List Th} {S : List Int} {n : Int} (h : (S.getLast?.all fun s => decide ((thAt ts n).need ≤ (thAt ts s).need)) = true) : ins1 (needC ts) S n = S ++ [n] := by
  unfold ins1
  rw [← List.head?_reverse] at h
  cases e : S.reverse with
  | nil =>
    have : S = [] := by simpa using e
    subst this; rfl
  | cons s t =>
    rw [e] at h
    simp only [List.head?_cons, Option.all_some, decide_eq_true_eq] at h
    unfold insR
    rw [if_neg (by simp [needC]; omega)]
    have : S = (s :: t).reverse := by rw [← e, List.reverse_reverse]
    rw [this]; simp
theorem Stand.can {lanes : List Int} {ts : List Th} {ld : Bool} {now : List (List Int)} {left needs : List Int} (h : Stand lanes ts ld now left needs) {n : Int} (hn : (thAt ts n).need ≤ 1000) {i : Nat} (hi : i < now.length) : rcan lanes ts ld n now i = canB ld (thAt ts n) left needs i := by
  unfold rcan canB
  rw [h.room i hi, Bool.and_comm]
  congr 1
  cases ld with
  | false => rfl
  | true =>
    simp only [Bool.not_true, Bool.false_or]
    cases e : (now.getD i []).getLast? with
    | none =>
      have := h.none rfl i hi (by simpa using e)
      rw [this]; simp [hn]
    | some s => rw [h.last rfl i hi s e]; simp
theorem getD_set_same {α : Type} (l : List α) (i : Nat) (x d : α) (h : i < l.length) : (l.set i x).getD i d = x := by simp [List.getD, h]
theorem getD_set_other {α : Type} (l : List α) (i k : Nat) (x d : α) (h : i ≠ k) : (l.set i x).getD k d = l.getD k d := by simp [List.getD, List.getElem?_set_ne h]
theorem Stand.step {lanes : List Int} {ts : List Th} {ld : Bool} {now : List (List Int)} {left needs : List Int} (h : Stand lanes ts ld now left needs) {n : Int} {i : Nat} (hi : i < now.length) (hc : rcan lanes ts ld n now i = true) :
    Stand lanes ts ld (now.set i (ins1 (needC ts) (now.getD i []) n)) (stepL (thAt ts n) left i) (stepN ld (thAt ts n) needs i) := by
  have h6 := h.h6
  have hll := h.hl
  have hnl := h.hn
  have hpl : longL ts (ins1 (needC ts) (now.getD i []) n) = longL ts (now.getD i []) + (thAt ts n).long := by
    rw [longL_perm (ins1_perm _ _ _)]
    show (thAt ts n).long + longL ts (now.getD i []) = _
    omega
  have hlast : ld = true → ins1 (needC ts) (now.getD i []) n = now.getD i [] ++ [n] := fun e => by
    unfold rcan at hc
    subst e
    simp only [Bool.not_true, Bool.false_or, Bool.and_eq_true] at hc
    exact ins1_last hc.2
  refine ⟨by simp [stepL, hll], by unfold stepN; split <;> simp [hnl], by simpa using h6, ?_, ?_, ?_⟩
  · intro k hk
    rw [List.length_set] at hk
    by_cases e : i = k
    · subst e
      rw [getD_set_same _ _ _ _ hi, stepL, getD_set_same _ _ _ _ (by omega), h.room i hi, hpl]; omega
    · rw [getD_set_other _ _ _ _ _ e, stepL, getD_set_other _ _ _ _ _ e, h.room k hk]
  · intro el k hk s hs
    rw [List.length_set] at hk
    unfold stepN
    rw [if_pos el]
    by_cases e : i = k
    · subst e
      rw [getD_set_same _ _ _ _ hi, hlast el] at hs
      simp at hs
      subst hs
      rw [getD_set_same _ _ _ _ (by omega)]
    · rw [getD_set_other _ _ _ _ _ e] at hs
      rw [getD_set_other _ _ _ _ _ e]
      exact h.last el k hk s hs
  · intro el k hk hs
    rw [List.length_set] at hk
    unfold stepN
    rw [if_pos el]
    by_cases e : i = k
    · subst e
      rw [getD_set_same _ _ _ _ hi, hlast el] at hs
      simp at hs
    · rw [getD_set_other _ _ _ _ _ e] at hs
      rw [getD_set_other _ _ _ _ _ e]
      exact h.none el k hk hs
/-- the rows, and what goes to them -/
def onto (ts : List Th) (now : List (List Int)) (l : List Int) (p : List Nat) : List (List Int) := (List.range now.length).map fun i => (part l p i).foldl (ins1 (needC ts)) (now.getD i [])
theorem onto_nil (ts : List Th) (now : List (List Int)) : onto ts now [] [] = now := by
  unfold onto
  apply List.ext_getElem?
  intro i
  by_cases h : i < now.length
  · simp [h, part_nil, List.getD]
  · simp [h]
theorem onto_cons (ts : List Th) (now : List (List Int)) (n : Int) (r : List Int) (i : Nat) (hi : i < now.length) (p : List Nat) : onto ts now (n :: r) (i :: p) = onto ts (now.set i (ins1 (needC ts) (now.getD i []) n)) r p := by
  unfold onto
  rw [List.length_set]
  apply List.map_congr_left
  intro k hk
  rw [part_cons]
  by_cases e : i = k
  · subst e
    rw [if_pos rfl, getD_set_same _ _ _ _ hi, List.foldl_cons]
  · rw [if_neg e, getD_set_other _ _ _ _ _ e]
theorem findSome_map {α β : Type} (g : α → β) (f : Nat → Option α) : ∀ l : List Nat, (l.findSome? f).map g = l.findSome? fun i => (f i).map g
  | [] => rfl
  | a :: l => by
    rw [List.findSome?_cons, List.findSome?_cons]
    cases h : f a with
    | some b => rfl
    | none => simpa using findSome_map g f l
theorem findSome_congr {α : Type} {f g : Nat → Option α} : ∀ {l : List Nat}, (∀ i ∈ l, f i = g i) → l.findSome? f = l.findSome? g
  | [], _ => rfl
  | a :: l, h => by
    rw [List.findSome?_cons, List.findSome?_cons, h a (by simp), findSome_congr fun i hi => h i (by simp [hi])]
theorem refp_eq (lanes : List Int) (ts : List Th) (ld : Bool) : ∀ (l : List Int) (now : List (List Int)) (left needs : List Int), (∀ n ∈ l, (thAt ts n).need ≤ 1000) → Stand lanes ts ld now left needs →
    refp lanes ts ld l now = (srch now.length ld (l.map (thAt ts)) left needs).map (onto ts now l)
  | [], now, left, needs, _, _ => by
    show some now = some (onto ts now [] [])
    rw [onto_nil]
  | n :: r, now, left, needs, hn, h => by
    unfold refp
    rw [List.map_cons, srch, waysL, findSome_filter, findSome_map]
    refine findSome_congr fun i hi => ?_
    have hi' := List.mem_range.1 hi
    rw [← h.can (hn n (by simp)) hi']
    by_cases hc : rcan lanes ts ld n now i = true
    · rw [if_pos hc, if_pos hc, refp_eq lanes ts ld r _ _ _ (fun m hm => hn m (by simp [hm])) (h.step hi' hc), List.length_set, Option.map_map]
      congr 1
      funext p
      exact (onto_cons ts now n r i hi' p).symm
    · rw [if_neg hc, if_neg hc]; rfl
theorem getD_replicate_nil (k i : Nat) : (List.replicate k ([] : List Int)).getD i [] = [] := by
  by_cases h : i < k <;> simp [List.getD, h]
theorem stand_start (lanes : List Int) (ts : List Th) (ld : Bool) (h6 : lanes.length ≤ 6) : Stand lanes ts ld (List.replicate lanes.length []) (pad lanes) (firstN lanes.length) := by
  refine ⟨by simp [pad], by simp [firstN], by simpa using h6, ?_, ?_, ?_⟩
  · intro i hi
    rw [List.length_replicate] at hi
    have h1 : i < 6 := by omega
    rw [getD_replicate_nil]
    simp [pad, List.getD, h1, longL, isum]
  · intro _ i hi s hs
    rw [getD_replicate_nil] at hs
    cases hs
  · intro _ i hi _
    rw [List.length_replicate] at hi
    have h1 : i < 6 := by omega
    simp [firstN, List.getD, h1, hi]
/-- the document's first packing -/
theorem refp_pack (j : Lo) (ts : List Th) (ld : Bool) (l : List Int) (h6 : j.lanes.length ≤ 6) (hn : ∀ n ∈ l, (thAt ts n).need ≤ 1000) :
    (if carB j ts l then refp j.lanes ts ld l (List.replicate j.lanes.length []) else none) = packL j ts l ld := by
  unfold packL
  by_cases h : carB j ts l = true
  · rw [if_pos h, if_pos h, refp_eq j.lanes ts ld l _ _ _ hn (stand_start j.lanes ts ld h6), List.length_replicate]
    congr 1
    funext p
    unfold onto laid
    rw [List.length_replicate]
    apply List.map_congr_left
    intro i hi
    rw [getD_replicate_nil]; rfl
  · rw [if_neg h, if_neg h]
end Go.Wg

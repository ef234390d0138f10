/- Shows as plain data: faults, costs, sheets, the search, orders. -/
import Derived.Test.YtilkoooahoecfaaGreatGround
import Derived.Test.YtilkoooahoecfaaGreatSortP
/- Shows as plain data: valid shows, changes, faults, costs, sheets. -/
namespace Go.Pg
open Go.Pl
structure Ac where
  min : Int
  ten : Int
  rigs : Nat
  casts : List Nat
  spare : Bool
  deriving Inhabited
structure Sh where
  acts : List Ac
  rest : List Int
  ins : List Int
  outs : List Int
  cover : Int
  dull : Int
  before : List (Int × Int)
  deriving Inhabited
def btw (n lo hi : Int) : Bool := decide (lo ≤ n ∧ n ≤ hi)
theorem btw_iff {n lo hi : Int} : btw n lo hi = true ↔ lo ≤ n ∧ n ≤ hi := by simp [btw]
/-- has a set only numbers below n? -/
def fitsB (s n : Nat) : Bool := decide (s / 2 ^ n = 0)
theorem fits_iff {s n : Nat} : fitsB s n = true ↔ s < 2 ^ n := by
  unfold fitsB
  rw [decide_eq_true_iff, Nat.div_eq_zero_iff]
  have : 0 < 2 ^ n := Nat.two_pow_pos n
  omega
theorem bit_lt {s n i : Nat} (h : s < 2 ^ n) (hb : s.testBit i = true) : i < n := by
  rcases Nat.lt_or_ge i n with h1 | h1
  · exact h1
  · rw [Nat.testBit_lt_two_pow (Nat.lt_of_lt_of_le h (Nat.pow_le_pow_right (by omega) h1))] at hb; cases hb
theorem fits_bits {s n : Nat} (hs : s < 65536) : fitsB s n = true ↔ ∀ i, i < 16 → n ≤ i → s.testBit i = false := by
  rw [fits_iff]
  constructor
  · intro h i _ hi
    exact Nat.testBit_lt_two_pow (Nat.lt_of_lt_of_le h (Nat.pow_le_pow_right (by omega) hi))
  · intro h
    refine Nat.lt_pow_two_of_testBit s fun i hi => ?_
    rcases Nat.lt_or_ge i 16 with h1 | h1
    · exact h i h1 hi
    · exact Nat.testBit_lt_two_pow (Nat.lt_of_lt_of_le hs (show 2 ^ 16 ≤ 2 ^ i from Nat.pow_le_pow_right (by omega) h1))
namespace Sh
def staged (s : Sh) (a : Ac) : Bool := btw a.min 1 60 && btw a.ten 0 100 && fitsB a.rigs s.ins.length && btw a.casts.length 1 4 && a.casts.all (fun c => fitsB c s.rest.length)
def pairB (s : Sh) (p : Int × Int) : Bool := btw p.1 0 (s.acts.length - 1) && btw p.2 0 (s.acts.length - 1) && decide (p.1 ≠ p.2)
def ok1 (s : Sh) : Bool := btw s.acts.length 1 8 && decide (s.rest.length ≤ 16) && s.rest.all (fun n => btw n 0 2) && decide (s.ins.length ≤ 10) && decide (s.outs.length = s.ins.length) && s.ins.all (fun n => btw n 0 30) && s.outs.all (fun n => btw n 0 30)
def ok2 (s : Sh) : Bool := btw s.cover 0 60 && btw s.dull 0 10 && decide (s.before.length ≤ 20)
def okB (s : Sh) : Bool := s.ok1 && s.ok2 && (s.acts.all s.staged && s.before.all s.pairB)
/-- What is known of a valid show. -/
structure Ok (s : Sh) : Prop where
  n1 : 1 ≤ s.acts.length
  n8 : s.acts.length ≤ 8
  r16 : s.rest.length ≤ 16
  rest : ∀ x ∈ s.rest, 0 ≤ x ∧ x ≤ 2
  i10 : s.ins.length ≤ 10
  oi : s.outs.length = s.ins.length
  ins : ∀ x ∈ s.ins, 0 ≤ x ∧ x ≤ 30
  outs : ∀ x ∈ s.outs, 0 ≤ x ∧ x ≤ 30
  cover : 0 ≤ s.cover ∧ s.cover ≤ 60
  dull : 0 ≤ s.dull ∧ s.dull ≤ 10
  b20 : s.before.length ≤ 20
  acts : ∀ a ∈ s.acts, s.staged a = true
  before : ∀ p ∈ s.before, s.pairB p = true
theorem ok_of {s : Sh} (h : s.okB = true) : s.Ok := by
  simp only [okB, ok1, ok2, Bool.and_eq_true, List.all_eq_true, decide_eq_true_eq, btw_iff] at h
  obtain ⟨⟨⟨⟨⟨⟨⟨⟨h1, h2⟩, h3⟩, h4⟩, h5⟩, h6⟩, h7⟩, ⟨h8, h9⟩, h10⟩, h11, h12⟩ := h
  exact ⟨by omega, by omega, h2, h3, h4, h5, h6, h7, h8, h9, h10, h11, h12⟩
theorem ok_iff {s : Sh} : s.okB = true ↔ s.Ok := by
  refine ⟨ok_of, fun h => ?_⟩
  simp only [okB, ok1, ok2, Bool.and_eq_true, List.all_eq_true, decide_eq_true_eq, btw_iff]
  have := h.n1
  have := h.n8
  exact ⟨⟨⟨⟨⟨⟨⟨⟨by omega, h.r16⟩, h.rest⟩, h.i10⟩, h.oi⟩, h.ins⟩, h.outs⟩, ⟨h.cover, h.dull⟩, h.b20⟩, h.acts, h.before⟩
structure AcOk (s : Sh) (a : Ac) : Prop where
  min : 1 ≤ a.min ∧ a.min ≤ 60
  ten : 0 ≤ a.ten ∧ a.ten ≤ 100
  rigs : a.rigs < 2 ^ s.ins.length
  c1 : 1 ≤ a.casts.length
  c4 : a.casts.length ≤ 4
  casts : ∀ c ∈ a.casts, c < 2 ^ s.rest.length
theorem staged_iff {s : Sh} {a : Ac} : s.staged a = true ↔ s.AcOk a := by
  simp only [staged, Bool.and_eq_true, List.all_eq_true, btw_iff, fits_iff]
  constructor
  · rintro ⟨⟨⟨⟨h1, h2⟩, h3⟩, h4⟩, h5⟩
    exact ⟨h1, h2, h3, by omega, by omega, h5⟩
  · intro h
    have := h.c1
    have := h.c4
    exact ⟨⟨⟨⟨h.min, h.ten⟩, h.rigs⟩, by omega⟩, h.casts⟩
def act (s : Sh) (i : Nat) : Ac := s.acts.getD i default
theorem act_eq {s : Sh} {i : Nat} (h : i < s.acts.length) : s.act i = s.acts[i] := by simp [act, h]
theorem Ok.act {s : Sh} (h : s.Ok) {i : Nat} (hi : i < s.acts.length) : s.AcOk (s.act i) := by
  rw [act_eq hi]; exact staged_iff.1 (h.acts _ (List.getElem_mem hi))
/-- the numbers of x that y has not -/
def less (x y : Nat) : List Nat := (List.range 16).filter fun i => x.testBit i && !y.testBit i
/-- the numbers of a set -/
def memb (x : Nat) : List Nat := (List.range 16).filter fun i => x.testBit i
/-- the minutes of a change -/
def chM (s : Sh) (a b : Nat) : Int := isum ((less (s.act b).rigs (s.act a).rigs).map fun k => s.ins.getD k 0) + isum ((less (s.act a).rigs (s.act b).rigs).map fun k => s.outs.getD k 0)
/-- the cost of a change -/
def chC (s : Sh) (a b : Nat) : Int := s.chM a b + s.dull * max 0 ((s.act a).ten - (s.act b).ten)
/-- the first cast -/
def cast (s : Sh) (i : Nat) : Nat := (s.act i).casts.getD 0 0
def tired (s : Sh) (a b : Nat) (bt : Int) : Bool := (List.range 16).any fun p => (s.cast a).testBit p && (s.cast b).testBit p && decide (bt < s.rest.getD p 0)
def early (s : Sh) (i set : Nat) : Bool := s.before.any fun p => decide (p.2 = (i : Int)) && !set.testBit p.1.toNat
/-- the first fault of an act in its place -/
def why (s : Sh) (i : Nat) (last sec : Int) (set : Nat) : Nat :=
  if (decide (0 ≤ last) && decide (s.cover < s.chM last.toNat i)) = true then 1
  else if (decide (0 ≤ last) && s.tired last.toNat i 0 || decide (0 ≤ sec) && s.tired sec.toNat i 1) = true then 2
  else if s.early i set = true then 3 else 0
def faultL (s : Sh) : List Nat → Nat → Int → Int → Nat → Int × Nat
  | [], _, _, _, _ => (0, 0)
  | a :: r, i, last, sec, set => if s.why a last sec set = 0 then faultL s r (i + 1) a last (set ||| 2 ^ a) else (i, s.why a last sec set)
def fault (s : Sh) (l : List Nat) : Int × Nat := s.faultL l 0 (-1) (-1) 0
/-- what the changes behind an act cost -/
def pc (s : Sh) : Nat → List Nat → Int
  | _, [] => 0
  | a, b :: r => s.chC a b + pc s b r
def cost (s : Sh) : List Nat → Int
  | [] => 0
  | a :: r => s.pc a r
/-- when the acts begin, and when the last one has ended -/
def sheetL (s : Sh) : Nat → Int → List Nat → List Int × Int
  | _, t, [] => ([], t)
  | a, t, b :: r => let u := sheetL s b (t + s.chM a b + (s.act b).min) r; ((t + s.chM a b) :: u.1, u.2)
def sheet (s : Sh) : List Nat → List Int × Int
  | [] => ([], 0)
  | a :: r => let u := s.sheetL a (s.act a).min r; (0 :: u.1, u.2)

/- bounds -/
theorem less_sub {x y n : Nat} (h : x < 2 ^ n) {i : Nat} (hi : i ∈ less x y) : i < n := by
  have h1 := (List.mem_filter.1 hi).2
  rw [Bool.and_eq_true] at h1
  exact bit_lt h h1.1
theorem less_len (x y : Nat) : (less x y).length ≤ 16 := by
  refine Nat.le_trans (List.length_filter_le _ _) (by simp)
theorem getD_bd {l : List Int} {lo hi : Int} (h : ∀ x ∈ l, lo ≤ x ∧ x ≤ hi) (h0 : lo ≤ 0 ∧ 0 ≤ hi) (k : Nat) : lo ≤ l.getD k 0 ∧ l.getD k 0 ≤ hi := by
  by_cases hk : k < l.length
  · simpa [hk] using h _ (List.getElem_mem hk)
  · simp [List.getElem?_eq_none (by omega : l.length ≤ k)]; exact h0
theorem Ok.chM {s : Sh} (h : s.Ok) (a b : Nat) : 0 ≤ s.chM a b ∧ s.chM a b ≤ 960 := by
  have h1 := isum_map_bd (fun k => s.ins.getD k 0) (less (s.act b).rigs (s.act a).rigs) 30 (fun k _ => getD_bd h.ins (by omega) k)
  have h2 := isum_map_bd (fun k => s.outs.getD k 0) (less (s.act a).rigs (s.act b).rigs) 30 (fun k _ => getD_bd h.outs (by omega) k)
  have := less_len (s.act b).rigs (s.act a).rigs
  have := less_len (s.act a).rigs (s.act b).rigs
  unfold Sh.chM
  omega
theorem Ok.ten {s : Sh} (h : s.Ok) (a : Nat) : 0 ≤ (s.act a).ten ∧ (s.act a).ten ≤ 100 := by
  by_cases ha : a < s.acts.length
  · exact (h.act ha).ten
  · have : s.act a = default := by simp [Sh.act, List.getElem?_eq_none (by omega : s.acts.length ≤ a)]
    rw [this]; decide
theorem Ok.chC {s : Sh} (h : s.Ok) (a b : Nat) : 0 ≤ s.chC a b ∧ s.chC a b ≤ 1960 := by
  have h1 := h.chM a b
  have h2 := h.ten a
  have h3 := h.ten b
  have h4 := mul_bd (a := s.dull) (b := max 0 ((s.act a).ten - (s.act b).ten)) h.dull.1 h.dull.2 (n := 100) (by omega) (by omega)
  unfold Sh.chC
  omega
end Sh
end Go.Pg

/- Programmes: all of them, the best one, what is left of a state; the first of the least. -/
namespace Go.Pg
open Go.Pl
/- the first of the least -/
section
variable {α : Type}
def minL (m : Int) (l : List Int) : Int := l.foldl min m
theorem minL_le (m : Int) (l : List Int) : minL m l ≤ m := by
  induction l generalizing m with
  | nil => exact Int.le_refl _
  | cons x l ih => exact Int.le_trans (ih (min m x)) (Int.min_le_left _ _)
theorem minL_mem_le {m x : Int} {l : List Int} (h : x ∈ l) : minL m l ≤ x := by
  induction l generalizing m with
  | nil => simp at h
  | cons y l ih =>
    rcases List.mem_cons.1 h with rfl | h
    · exact Int.le_trans (minL_le _ l) (Int.min_le_right _ _)
    · exact ih h
theorem minL_hit (m : Int) (l : List Int) : minL m l = m ∨ minL m l ∈ l := by
  induction l generalizing m with
  | nil => exact .inl rfl
  | cons y l ih =>
    have h := ih (min m y)
    rw [show minL m (y :: l) = minL (min m y) l from rfl]
    rcases h with h | h
    · rcases Int.le_total m y with h2 | h2
      · left; omega
      · right; rw [h]; simp; left; omega
    · right; exact List.mem_cons_of_mem _ h
theorem minL_append (m : Int) (a b : List Int) : minL m (a ++ b) = minL (minL m a) b := by simp [minL]
theorem minL_add (c m : Int) (l : List Int) : minL (c + m) (l.map (c + ·)) = c + minL m l := by
  induction l generalizing m with
  | nil => rfl
  | cons x l ih =>
    show minL (min (c + m) (c + x)) (l.map (c + ·)) = c + minL (min m x) l
    rw [← ih, show min (c + m) (c + x) = c + min m x by omega]
theorem minL_min (a b : Int) (l : List Int) : minL (min a b) l = min a (minL b l) := by
  induction l generalizing b with
  | nil => rfl
  | cons x l ih => show minL (min (min a b) x) l = min a (minL (min b x) l); rw [Int.min_assoc, ih]
theorem min_add {a c m : Int} (l : List Int) (h : a ≤ c + m) : min a (c + minL m l) = minL a (l.map (c + ·)) := by
  rw [← minL_add, ← minL_min, show min a (c + m) = a by omega]
/-- one way against the best so far -/
def pick (c : α → Int) (b : Option α) (p : α) : Option α := match b with | none => some p | some q => if c p < c q then some p else some q
theorem pick_some (c : α → Int) : ∀ (l : List α) (b : α), l.foldl (pick c) (some b) = (b :: l).find? (fun p => decide (c p = minL (c b) (l.map c)))
  | [], b => by simp [minL]
  | p :: l, b => by
    rw [List.foldl_cons]
    have hm : minL (c b) ((p :: l).map c) = minL (min (c b) (c p)) (l.map c) := rfl
    by_cases h : c p < c b
    · rw [show pick c (some b) p = some p by simp [pick, h], pick_some c l p, hm, show min (c b) (c p) = c p by omega]
      rw [List.find?_cons (a := b), show decide (c b = minL (c p) (l.map c)) = false by have := minL_le (c p) (l.map c); simp; omega]
    · rw [show pick c (some b) p = some b by simp [pick, h], pick_some c l b, hm, show min (c b) (c p) = c b by omega]
      have h1 := minL_le (c b) (l.map c)
      by_cases hb : c b = minL (c b) (l.map c)
      · simp [← hb]
      · rw [List.find?_cons, List.find?_cons (a := b), List.find?_cons (a := p)]
        rw [show decide (c b = minL (c b) (l.map c)) = false by simpa using hb, show decide (c p = minL (c b) (l.map c)) = false by simp; omega]
theorem pick_none (c : α → Int) (m : Int) (l : List α) (h : ∀ x ∈ l, c x < m) : l.foldl (pick c) none = l.find? (fun p => decide (c p = minL m (l.map c))) := by
  cases l with
  | nil => rfl
  | cons p l =>
    rw [List.foldl_cons, show pick c none p = some p from rfl, pick_some]
    have := h p (by simp)
    rw [show minL m ((p :: l).map c) = minL (min m (c p)) (l.map c) from rfl, show min m (c p) = c p by omega]
end
structure St where
  set : Nat
  last : Nat
  sec : Nat
structure Nx where
  act : Nat
  cost : Int
  st : St
def maxT : Int := 1000000
/-- how many of the first n numbers a set has not -/
def leftR : Nat → Nat → Nat
  | 0, _ => 0
  | n + 1, set => leftR n set + if set.testBit n then 0 else 1
theorem bit_or (set c i : Nat) : (set ||| 2 ^ c).testBit i = (set.testBit i || decide (c = i)) := by
  rw [Nat.testBit_or, Nat.testBit_two_pow]
theorem left_or_ge {n set c : Nat} (h : n ≤ c) : leftR n (set ||| 2 ^ c) = leftR n set := by
  induction n with
  | zero => rfl
  | succ n ih => unfold leftR; rw [ih (by omega), bit_or, show decide (c = n) = false by simp; omega, Bool.or_false]
theorem left_or {n set c : Nat} (hc : c < n) (hb : set.testBit c = false) : leftR n (set ||| 2 ^ c) + 1 = leftR n set := by
  induction n with
  | zero => omega
  | succ n ih =>
    unfold leftR
    by_cases h : c = n
    · subst h
      rw [left_or_ge (Nat.le_refl _), bit_or]
      simp [hb]
    · have := ih (by omega)
      rw [bit_or, show decide (c = n) = false by simpa using h, Bool.or_false]
      omega
theorem left_zero {n set : Nat} (h : leftR n set = 0) {c : Nat} (hc : c < n) : set.testBit c = true := by
  induction n with
  | zero => omega
  | succ n ih =>
    unfold leftR at h
    by_cases hcn : c = n
    · subst hcn
      cases hb : set.testBit c
      · simp [hb] at h
      · rfl
    · exact ih (by omega) (by omega)
theorem left_full {n set : Nat} (h : ∀ c, c < n → set.testBit c = true) : leftR n set = 0 := by
  induction n with
  | zero => rfl
  | succ n ih => unfold leftR; rw [ih (fun c hc => h c (by omega)), h n (by omega)]; rfl
theorem left_le (n set : Nat) : leftR n set ≤ n := by
  induction n with
  | zero => exact Nat.le_refl _
  | succ n ih => unfold leftR; split <;> omega
theorem left_empty (n : Nat) : leftR n 0 = n := by
  induction n with
  | zero => rfl
  | succ n ih => unfold leftR; simp [ih]
theorem or_lt {n set c : Nat} (h : set < 2 ^ n) (hc : c < n) : set ||| 2 ^ c < 2 ^ n := Nat.or_lt_two_pow h (Nat.pow_lt_pow_right (by omega) hc)
namespace Sh
variable {s : Sh}
def whole (s : Sh) : Nat := 2 ^ s.acts.length - 1
theorem whole_bit (s : Sh) (c : Nat) : s.whole.testBit c = decide (c < s.acts.length) := by unfold whole; rw [Nat.testBit_two_pow_sub_one]
theorem whole_iff {set : Nat} (h : set < 2 ^ s.acts.length) : set = s.whole ↔ leftR s.acts.length set = 0 := by
  constructor
  · rintro rfl
    exact left_full fun c hc => by rw [whole_bit]; simpa using hc
  · intro h0
    refine Nat.eq_of_testBit_eq fun i => ?_
    rw [whole_bit]
    by_cases hi : i < s.acts.length
    · rw [left_zero h0 hi]; simp [hi]
    · rw [Nat.testBit_lt_two_pow (Nat.lt_of_lt_of_le h (Nat.pow_le_pow_right (by omega) (by omega)))]; simp [hi]
def secI (x : St) : Int := if x.sec = x.last then -1 else x.sec
/-- may an act follow? -/
def may (s : Sh) (x : St) (c : Nat) : Bool := !x.set.testBit c && decide (s.why c x.last (secI x) x.set = 0)
def to (x : St) (c : Nat) : St := ⟨x.set ||| 2 ^ c, c, x.last⟩
def nx (s : Sh) (x : St) (c : Nat) : Nx := ⟨c, s.chC x.last c, to x c⟩
def fol (s : Sh) (x : St) : List Nx := ((List.range s.acts.length).filter (s.may x)).map (s.nx x)
def left (s : Sh) (x : St) : Nat := leftR s.acts.length x.set
/-- the least cost of what is still to come, k acts -/
def bst (s : Sh) : Nat → St → Int
  | 0, x => if x.set = s.whole then 0 else maxT
  | k + 1, x => (s.fol x).foldl (fun n y => min n (y.cost + bst s k y.st)) (if x.set = s.whole then 0 else maxT)
def best (s : Sh) (x : St) : Int := s.bst (s.left x) x
theorem may_lt {x : St} {c : Nat} (hc : c < s.acts.length) (h : s.may x c = true) : s.left (to x c) + 1 = s.left x := by
  unfold may at h
  rw [Bool.and_eq_true] at h
  exact left_or hc (by simpa using h.1)
theorem fol_mem {x : St} {y : Nx} (h : y ∈ s.fol x) : ∃ c, c < s.acts.length ∧ s.may x c = true ∧ y = s.nx x c := by
  unfold fol at h
  obtain ⟨c, hc, rfl⟩ := List.mem_map.1 h
  obtain ⟨h1, h2⟩ := List.mem_filter.1 hc
  exact ⟨c, by simpa using h1, h2, rfl⟩
theorem fol_left {x : St} {y : Nx} (h : y ∈ s.fol x) : s.left y.st + 1 = s.left x := by
  obtain ⟨c, h1, h2, rfl⟩ := fol_mem h
  exact may_lt h1 h2
theorem fol_set {x : St} {y : Nx} (hx : x.set < 2 ^ s.acts.length) (h : y ∈ s.fol x) : y.st.set < 2 ^ s.acts.length := by
  obtain ⟨c, h1, h2, rfl⟩ := fol_mem h
  exact or_lt hx h1
theorem foldl_congr {α β : Type} {f g : β → α → β} {l : List α} (h : ∀ b, ∀ x ∈ l, f b x = g b x) (b : β) : l.foldl f b = l.foldl g b := by
  induction l generalizing b with
  | nil => rfl
  | cons x l ih => rw [List.foldl_cons, List.foldl_cons, h b x (by simp), ih (fun b y hy => h b y (by simp [hy]))]
/-- one state by those behind it -/
theorem best_step (x : St) : s.best x = (s.fol x).foldl (fun n y => min n (y.cost + s.best y.st)) (if x.set = s.whole then 0 else maxT) := by
  unfold best
  cases hk : s.left x with
  | zero =>
    have h0 : s.fol x = [] := by
      rcases List.eq_nil_or_concat (s.fol x) with h | ⟨l, y, h⟩
      · exact h
      · have := fol_left (s := s) (x := x) (y := y) (by rw [h]; simp)
        omega
    rw [h0]; rfl
  | succ k =>
    show (s.fol x).foldl (fun n y => min n (y.cost + bst s k y.st)) _ = _
    refine foldl_congr (fun b y hy => ?_) _
    have := fol_left hy
    rw [show s.left y.st = k by omega]
theorem foldl_min (l : List Nx) (f : Nx → Int) (m : Int) : l.foldl (fun n y => min n (f y)) m = minL m (l.map f) := by
  unfold minL; rw [List.foldl_map]
theorem best_min (x : St) : s.best x = minL (if x.set = s.whole then 0 else maxT) ((s.fol x).map fun y => y.cost + s.best y.st) := by
  rw [best_step, foldl_min]
/-- all ways to go on, k acts, in their order -/
def pths (s : Sh) : Nat → St → List (List Nat)
  | 0, _ => [[]]
  | k + 1, x => (s.fol x).flatMap fun y => (pths s k y.st).map (y.act :: ·)
theorem minL_flat {α : Type} (M : Int) (l : List α) (f : α → List Int) (g : α → Int) (h : ∀ y ∈ l, ∀ a, a ≤ M → min a (g y) = minL a (f y)) : ∀ a, a ≤ M → minL a (l.map g) = minL a (l.flatMap f) := by
  induction l with
  | nil => intro a _; rfl
  | cons y l ih =>
    intro a ha
    rw [List.flatMap_cons, minL_append, ← h y (by simp) a ha]
    show minL (min a (g y)) (l.map g) = _
    exact ih (fun z hz => h z (by simp [hz])) _ (by omega)
theorem best_pths (hok : s.Ok) : ∀ (k : Nat) (x : St), x.set < 2 ^ s.acts.length → s.left x = k → s.best x = minL maxT ((s.pths k x).map (s.pc x.last))
  | 0, x, hx, hk => by
    have : s.best x = 0 := by unfold best; rw [hk]; simp [bst, (whole_iff hx).2 hk]
    rw [this]; simp [pths, pc, minL, maxT]; omega
  | k + 1, x, hx, hk => by
    have hne : x.set ≠ s.whole := fun h => by have := (whole_iff hx).1 h; unfold left at hk; omega
    rw [best_min, if_neg hne]
    show _ = minL maxT (((s.fol x).flatMap fun y => (s.pths k y.st).map (y.act :: ·)).map (s.pc x.last))
    rw [List.map_flatMap]
    refine minL_flat maxT (s.fol x) _ _ (fun y hy a ha => ?_) maxT (Int.le_refl _)
    have hl := fol_left hy
    have ih := best_pths hok k y.st (fol_set hx hy) (by omega)
    obtain ⟨c, h1, h2, rfl⟩ := fol_mem hy
    have hc := hok.chC x.last c
    rw [ih, min_add _ (by show a ≤ s.chC x.last c + maxT; omega)]
    rw [List.map_map, List.map_map]
    rfl
/-- the greedy way by the least costs -/
def greedy (s : Sh) : Nat → St → List Nat
  | 0, _ => []
  | k + 1, x => match (s.fol x).find? (fun y => decide (y.cost + s.best y.st = s.best x)) with | none => [] | some y => y.act :: greedy s k y.st
theorem greedy_succ (k : Nat) (x : St) : s.greedy (k + 1) x = match (s.fol x).find? (fun y => decide (y.cost + s.best y.st = s.best x)) with | none => [] | some y => y.act :: s.greedy k y.st := rfl
theorem find_flat {α β : Type} (p : α → Bool) (f : β → List α) : ∀ l : List β, (l.flatMap f).find? p = l.findSome? (fun y => (f y).find? p)
  | [] => rfl
  | y :: l => by
    rw [List.flatMap_cons, List.find?_append, List.findSome?_cons, find_flat p f l]
    cases (f y).find? p <;> rfl
theorem find_some_of {α β : Type} (p : α → Bool) (g : α → Option β) (h : α → β) : ∀ l : List α, (∀ y ∈ l, p y = false → g y = none) → (∀ y ∈ l, p y = true → g y = some (h y)) → l.findSome? g = (l.find? p).map h
  | [], _, _ => rfl
  | y :: l, h1, h2 => by
    rw [List.findSome?_cons, List.find?_cons]
    cases hp : p y
    · rw [h1 y (by simp) hp]
      exact find_some_of p g h l (fun z hz => h1 z (by simp [hz])) (fun z hz => h2 z (by simp [hz]))
    · rw [h2 y (by simp) hp]; rfl
theorem greedy_spec (hok : s.Ok) : ∀ (k : Nat) (x : St), x.set < 2 ^ s.acts.length → s.left x = k → s.best x < maxT → (s.pths k x).find? (fun p => decide (s.pc x.last p = s.best x)) = some (s.greedy k x)
  | 0, x, hx, hk, hb => by
    have : s.best x = 0 := by unfold best; rw [hk]; simp [bst, (whole_iff hx).2 hk]
    rw [this]; rfl
  | k + 1, x, hx, hk, hb => by
    have hne : x.set ≠ s.whole := fun h => by have := (whole_iff hx).1 h; unfold left at hk; omega
    show ((s.fol x).flatMap fun y => (s.pths k y.st).map (y.act :: ·)).find? _ = _
    rw [find_flat, find_some_of (fun y => decide (y.cost + s.best y.st = s.best x)) _ (fun y => y.act :: s.greedy k y.st)]
    · rw [greedy_succ]
      have hm := best_min (s := s) x
      rw [if_neg hne] at hm
      rcases minL_hit maxT ((s.fol x).map fun y => y.cost + s.best y.st) with h | h
      · omega
      · obtain ⟨y, hy, he⟩ := List.mem_map.1 h
        cases hf : (s.fol x).find? (fun y => decide (y.cost + s.best y.st = s.best x)) with
        | none => exact absurd (List.find?_eq_none.1 hf y hy) (by simp [he, ← hm])
        | some z => rfl
    · intro y hy hp
      have hl := fol_left hy
      have hby := best_pths hok k y.st (fol_set hx hy) (by omega)
      have hle : s.best x ≤ y.cost + s.best y.st := by rw [best_min x]; exact minL_mem_le (List.mem_map_of_mem hy)
      obtain ⟨c, h1, h2, rfl⟩ := fol_mem hy
      rw [List.find?_map, Option.map_eq_none_iff, List.find?_eq_none]
      intro p hp2
      have : s.best (s.nx x c).st ≤ s.pc (s.nx x c).st.last p := by rw [hby]; exact minL_mem_le (List.mem_map_of_mem hp2)
      have hp3 := of_decide_eq_false hp
      have e : s.pc x.last ((s.nx x c).act :: p) = (s.nx x c).cost + s.pc (s.nx x c).st.last p := rfl
      simp only [Function.comp, decide_eq_true_eq, e]
      omega
    · intro y hy hp
      have hl := fol_left hy
      have hp3 := of_decide_eq_true hp
      obtain ⟨c, h1, h2, rfl⟩ := fol_mem hy
      have hc := hok.chC x.last c
      have hcc : (s.nx x c).cost = s.chC x.last c := rfl
      have ih := greedy_spec hok k (s.nx x c).st (fol_set hx hy) (by omega) (by omega)
      rw [List.find?_map]
      have e : ((fun p => decide (s.pc x.last p = s.best x)) ∘ fun p => (s.nx x c).act :: p) = fun p => decide (s.pc (s.nx x c).st.last p = s.best (s.nx x c).st) := by
        funext p
        have e : s.pc x.last ((s.nx x c).act :: p) = (s.nx x c).cost + s.pc (s.nx x c).st.last p := rfl
        simp only [Function.comp, e]
        congr 1
        rw [eq_iff_iff]
        omega
      rw [e, ih]; rfl
/-- may an act come first? -/
def first (s : Sh) (a : Nat) : Bool := decide (s.why a (-1) (-1) 0 = 0)
def firsts (s : Sh) : List Nat := (List.range s.acts.length).filter s.first
def one (a : Nat) : St := ⟨2 ^ a, a, a⟩
theorem left_one {a : Nat} (h : a < s.acts.length) : s.left (one a) + 1 = s.acts.length := by
  have := left_or (n := s.acts.length) (set := 0) h (by simp)
  rw [left_empty] at this
  simpa [left, one] using this
/-- all programmes, in their order -/
def progs (s : Sh) : List (List Nat) := s.firsts.flatMap fun a => (s.pths (s.acts.length - 1) (one a)).map (a :: ·)
/-- the least cost -/
def least (s : Sh) : Int := minL maxT (s.firsts.map fun a => s.best (one a))
/-- the best first act -/
def head (s : Sh) : Option Nat := s.firsts.find? (fun a => decide (s.best (one a) = s.least))
def solve (s : Sh) : Option (List Nat) := if s.least < maxT then s.head.map fun a => a :: s.greedy (s.acts.length - 1) (one a) else none
theorem firsts_lt {a : Nat} (h : a ∈ s.firsts) : a < s.acts.length := by simpa using (List.mem_filter.1 h).1
theorem one_lt {a : Nat} (h : a < s.acts.length) : (one a).set < 2 ^ s.acts.length := Nat.pow_lt_pow_right (by omega) h
theorem least_progs (hok : s.Ok) : s.least = minL maxT (s.progs.map s.cost) := by
  unfold least progs
  rw [List.map_flatMap]
  refine minL_flat maxT s.firsts _ _ (fun a ha m hm => ?_) maxT (Int.le_refl _)
  have hl := firsts_lt ha
  have h1 := left_one hl
  rw [best_pths hok (s.acts.length - 1) (one a) (one_lt hl) (by omega)]
  have := min_add (a := m) (c := 0) (m := maxT) ((s.pths (s.acts.length - 1) (one a)).map (s.pc (one a).last)) (by omega)
  rw [Int.zero_add] at this
  rw [this, List.map_map, List.map_map]
  congr 1
  refine List.map_congr_left fun p _ => ?_
  show 0 + s.pc a p = s.pc a p
  omega
theorem pc_bd (hok : s.Ok) : ∀ (p : List Nat) (a : Nat), 0 ≤ s.pc a p ∧ s.pc a p ≤ p.length * 1960
  | [], a => by simp [pc]
  | b :: r, a => by
    have h1 := hok.chC a b
    have h2 := pc_bd hok r b
    simp only [pc, List.length_cons]
    omega
theorem pths_len : ∀ (k : Nat) (x : St), ∀ p ∈ s.pths k x, p.length = k
  | 0, x, p, h => by simp [pths] at h; simp [h]
  | k + 1, x, p, h => by
    simp only [pths, List.mem_flatMap, List.mem_map] at h
    obtain ⟨y, hy, q, hq, rfl⟩ := h
    simp [pths_len k y.st q hq]
theorem progs_len {p : List Nat} (hok : s.Ok) (h : p ∈ s.progs) : p.length = s.acts.length := by
  simp only [progs, List.mem_flatMap, List.mem_map] at h
  obtain ⟨a, ha, q, hq, rfl⟩ := h
  have := hok.n1
  simp [pths_len _ _ q hq]
  omega
theorem cost_bd (hok : s.Ok) (p : List Nat) (h : p.length ≤ 12) : 0 ≤ s.cost p ∧ s.cost p < maxT := by
  cases p with
  | nil => show 0 ≤ (0 : Int) ∧ (0 : Int) < 1000000; omega
  | cons a r =>
    have := pc_bd hok r a
    rw [List.length_cons] at h
    show 0 ≤ s.pc a r ∧ s.pc a r < 1000000
    omega
/-- **The greedy way is the first of the least.** -/
theorem solve_spec (hok : s.Ok) : s.solve = s.progs.foldl (pick s.cost) none := by
  have hlt : ∀ p ∈ s.progs, s.cost p < maxT := fun p hp => (cost_bd hok p (by rw [progs_len hok hp]; have := hok.n8; omega)).2
  rw [pick_none s.cost maxT s.progs hlt, ← least_progs hok]
  unfold solve
  by_cases hm : s.least < maxT
  · rw [if_pos hm]
    unfold progs head
    rw [find_flat, find_some_of (fun a => decide (s.best (one a) = s.least)) _ (fun a => a :: s.greedy (s.acts.length - 1) (one a))]
    · intro a ha hp
      have hl := firsts_lt ha
      have h1 := left_one hl
      have hby := best_pths hok (s.acts.length - 1) (one a) (one_lt hl) (by omega)
      have hle : s.least ≤ s.best (one a) := minL_mem_le (List.mem_map_of_mem ha)
      rw [List.find?_map, Option.map_eq_none_iff, List.find?_eq_none]
      intro p hp2
      have : s.best (one a) ≤ s.pc a p := by rw [hby]; exact minL_mem_le (List.mem_map_of_mem hp2)
      have hp3 := of_decide_eq_false hp
      have e : s.cost (a :: p) = s.pc a p := rfl
      simp only [Function.comp, decide_eq_true_eq, e]
      omega
    · intro a ha hp
      have hl := firsts_lt ha
      have h1 := left_one hl
      have hp3 := of_decide_eq_true hp
      rw [List.find?_map]
      have e : ((fun p => decide (s.cost p = s.least)) ∘ fun p => a :: p) = fun p => decide (s.pc (one a).last p = s.best (one a)) := by
        funext p
        show decide (s.pc a p = s.least) = decide (s.pc a p = s.best (one a))
        rw [hp3]
      rw [e, greedy_spec hok _ _ (one_lt hl) (by omega) (by omega)]; rfl
  · rw [if_neg hm]
    symm
    rw [List.find?_eq_none]
    intro p hp
    have := hlt p hp
    simp
    omega
theorem solve_none (hok : s.Ok) : s.solve = none ↔ s.progs = [] := by
  rw [solve_spec hok]
  cases hp : s.progs with
  | nil => simp
  | cons p l =>
    rw [List.foldl_cons, show pick s.cost none p = some p from rfl, pick_some]
    simp only [reduceCtorEq, iff_false]
    intro h
    rw [List.find?_eq_none] at h
    rcases minL_hit (s.cost p) (l.map s.cost) with h1 | h1
    · exact h p (by simp) (by simp [h1])
    · obtain ⟨q, hq, e⟩ := List.mem_map.1 h1
      exact h q (by simp [hq]) (by simp [e])
theorem solve_some (hok : s.Ok) {p : List Nat} (h : s.solve = some p) : p ∈ s.progs ∧ s.cost p = s.least ∧ s.least < maxT := by
  have hlt : ∀ p ∈ s.progs, s.cost p < maxT := fun p hp => (cost_bd hok p (by rw [progs_len hok hp]; have := hok.n8; omega)).2
  rw [solve_spec hok, pick_none s.cost maxT s.progs hlt, ← least_progs hok] at h
  have h1 := List.mem_of_find?_eq_some h
  have h2 := List.find?_some h
  exact ⟨h1, by simpa using h2, by have := hlt p h1; have : s.cost p = s.least := by simpa using h2
                                   omega⟩
theorem least_le (hok : s.Ok) {p : List Nat} (h : p ∈ s.progs) : s.least ≤ s.cost p := by
  rw [least_progs hok]; exact minL_mem_le (List.mem_map_of_mem h)
end Sh
end Go.Pg

/- Orders without a fault are the programmes; a search through all of them; tables and their bounds. -/
namespace Go.Pg
open Go.Pl
namespace Sh
variable {s : Sh}
def goes (s : Sh) : St → List Nat → Bool
  | _, [] => true
  | x, c :: r => decide (c < s.acts.length) && s.may x c && goes s (to x c) r
theorem pths_iff : ∀ (k : Nat) (x : St) (p : List Nat), p ∈ s.pths k x ↔ p.length = k ∧ s.goes x p = true
  | 0, x, p => by
    simp only [pths, List.mem_singleton]
    constructor
    · rintro rfl; exact ⟨rfl, rfl⟩
    · rintro ⟨h, _⟩; exact List.length_eq_zero_iff.1 h
  | k + 1, x, p => by
    simp only [pths, List.mem_flatMap, List.mem_map]
    constructor
    · rintro ⟨y, hy, q, hq, rfl⟩
      obtain ⟨h1, h2⟩ := (pths_iff k _ q).1 hq
      obtain ⟨c, h3, h4, rfl⟩ := fol_mem hy
      refine ⟨by simp [h1], ?_⟩
      show (decide (c < s.acts.length) && s.may x c && s.goes (to x c) q) = true
      have h5 : s.goes (to x c) q = true := h2
      simp [h3, h4, h5]
    · rintro ⟨h1, h2⟩
      cases p with
      | nil => simp at h1
      | cons c r =>
        simp only [goes, Bool.and_eq_true, decide_eq_true_eq] at h2
        refine ⟨s.nx x c, ?_, r, (pths_iff k _ r).2 ⟨by simpa using h1, h2.2⟩, rfl⟩
        unfold fol
        exact List.mem_map_of_mem (List.mem_filter.2 ⟨by simpa using h2.1.1, h2.1.2⟩)
/-- the state has its last act -/
def Good (x : St) : Prop := x.set.testBit x.last = true
theorem good_to (x : St) (c : Nat) : Good (to x c) := by unfold Good to; rw [bit_or]; simp
theorem good_one (a : Nat) : Good (one a) := by unfold Good one; rw [Nat.testBit_two_pow]; simp
theorem secI_to {x : St} {c : Nat} (hx : Good x) (hc : x.set.testBit c = false) : secI (to x c) = x.last := by
  unfold secI to
  have : x.last ≠ c := fun e => by subst e; unfold Good at hx; rw [hx] at hc; cases hc
  simp [this]
theorem fault_goes : ∀ (r : List Nat) (x : St) (i : Nat), Good x → (∀ c ∈ r, c < s.acts.length) → r.Nodup → (∀ c ∈ r, x.set.testBit c = false) → ((s.faultL r i x.last (secI x) x.set).2 = 0 ↔ s.goes x r = true)
  | [], x, i, _, _, _, _ => by simp [faultL, goes]
  | c :: r, x, i, hx, h1, h2, h3 => by
    have hb := h3 c (by simp)
    have hm : s.may x c = decide (s.why c x.last (secI x) x.set = 0) := by unfold may; rw [hb]; rfl
    rw [List.nodup_cons] at h2
    unfold faultL goes
    rw [hm, show decide (c < s.acts.length) = true by simpa using h1 c (by simp), Bool.true_and]
    by_cases hw : s.why c x.last (secI x) x.set = 0
    · rw [if_pos hw]
      have ih := fault_goes r (to x c) (i + 1) (good_to x c) (fun d hd => h1 d (by simp [hd])) h2.2 (fun d hd => by
        unfold to; rw [bit_or, h3 d (by simp [hd])]
        have : c ≠ d := fun e => h2.1 (e ▸ hd)
        simpa using this)
      rw [secI_to hx hb] at ih
      have e1 : (to x c).set = x.set ||| 2 ^ c := rfl
      have e2 : (to x c).last = c := rfl
      rw [e1, e2] at ih
      rw [ih, hw]; simp
    · rw [if_neg hw]
      simp [hw]
/-- is a list an order? -/
def isOrd (s : Sh) (l : List Nat) : Bool := decide (l.length = s.acts.length ∧ (∀ c ∈ l, c < s.acts.length) ∧ l.Nodup)
theorem goes_ok : ∀ (r : List Nat) (x : St), s.goes x r = true → (∀ c ∈ r, c < s.acts.length) ∧ r.Nodup ∧ ∀ c ∈ r, x.set.testBit c = false
  | [], _, _ => by simp
  | c :: r, x, h => by
    simp only [goes, Bool.and_eq_true, decide_eq_true_eq] at h
    obtain ⟨⟨h1, h2⟩, h3⟩ := h
    obtain ⟨i1, i2, i3⟩ := goes_ok r _ h3
    unfold may at h2
    rw [Bool.and_eq_true] at h2
    have hb : x.set.testBit c = false := by simpa using h2.1
    refine ⟨fun d hd => ?_, ?_, fun d hd => ?_⟩
    · rcases List.mem_cons.1 hd with rfl | hd
      · exact h1
      · exact i1 d hd
    · rw [List.nodup_cons]
      refine ⟨fun hc => ?_, i2⟩
      have := i3 c hc
      unfold to at this
      rw [bit_or] at this
      simp at this
    · rcases List.mem_cons.1 hd with rfl | hd
      · exact hb
      · have := i3 d hd
        unfold to at this
        rw [bit_or, Bool.or_eq_false_iff] at this
        exact this.1
theorem fault_cons (a : Nat) (r : List Nat) : s.fault (a :: r) = if s.why a (-1) (-1) 0 = 0 then s.faultL r 1 a (-1) (2 ^ a) else (0, s.why a (-1) (-1) 0) := by
  show (if s.why a (-1) (-1) 0 = 0 then s.faultL r (0 + 1) a (-1) (0 ||| 2 ^ a) else (((0 : Nat) : Int), s.why a (-1) (-1) 0)) = _
  rw [Nat.zero_or]
  rfl
theorem progs_iff (hok : s.Ok) {p : List Nat} : p ∈ s.progs ↔ s.isOrd p = true ∧ (s.fault p).2 = 0 := by
  have hn := hok.n1
  unfold progs isOrd
  simp only [List.mem_flatMap, List.mem_map, decide_eq_true_eq]
  have key : ∀ a r, a < s.acts.length → (∀ c ∈ r, c < s.acts.length) → (a :: r).Nodup → ((s.faultL r 1 a (-1) (2 ^ a)).2 = 0 ↔ s.goes (one a) r = true) := fun a r ha hr hnd => by
    rw [List.nodup_cons] at hnd
    have h := fault_goes (s := s) r (one a) 1 (good_one a) hr hnd.2 (fun c hc => by
      unfold one; rw [Nat.testBit_two_pow]
      have : a ≠ c := fun e => hnd.1 (e ▸ hc)
      simpa using this)
    have e : secI (one a) = -1 := by simp [secI, one]
    rw [e] at h
    exact h
  constructor
  · rintro ⟨a, ha, q, hq, rfl⟩
    obtain ⟨h1, h2⟩ := (pths_iff _ _ q).1 hq
    obtain ⟨i1, i2, i3⟩ := goes_ok q _ h2
    have hl := firsts_lt ha
    have hnd : (a :: q).Nodup := by
      rw [List.nodup_cons]
      refine ⟨fun hc => ?_, i2⟩
      have := i3 a hc
      unfold one at this
      rw [Nat.testBit_two_pow] at this
      simp at this
    refine ⟨⟨by simp [h1]; omega, fun c hc => ?_, hnd⟩, ?_⟩
    · rcases List.mem_cons.1 hc with rfl | hc
      · exact hl
      · exact i1 c hc
    · have hf := (List.mem_filter.1 ha).2
      unfold first at hf
      rw [fault_cons, if_pos (of_decide_eq_true hf)]
      exact (key a q hl i1 hnd).2 h2
  · rintro ⟨⟨h1, h2, h3⟩, h4⟩
    cases p with
    | nil => simp at h1; omega
    | cons a r =>
      rw [fault_cons] at h4
      have hl := h2 a (by simp)
      split at h4
      · rename_i hw
        refine ⟨a, List.mem_filter.2 ⟨by simpa using hl, by unfold first; simp [hw]⟩, r, (pths_iff _ _ r).2 ⟨by simp at h1; omega, (key a r hl (fun c hc => h2 c (by simp [hc])) h3).1 h4⟩, rfl⟩
      · rename_i hw
        exact absurd h4 hw

/- the search -/
def lastI (now : List Nat) : Int := match now.getLast? with | none => -1 | some a => a
def secL (now : List Nat) : Int := lastI now.dropLast
def setOf (now : List Nat) : Nat := now.foldl (fun t c => t ||| 2 ^ c) 0
theorem setOf_snoc (l : List Nat) (c : Nat) : setOf (l ++ [c]) = setOf l ||| 2 ^ c := by simp [setOf]
theorem setOf_bit (l : List Nat) (i : Nat) : (setOf l).testBit i = l.contains i := by
  suffices h : ∀ (l : List Nat) (t : Nat), (l.foldl (fun t c => t ||| 2 ^ c) t).testBit i = (t.testBit i || l.contains i) by
    have := h l 0; simpa [setOf] using this
  intro l
  induction l with
  | nil => intro t; simp
  | cons c l ih =>
    intro t
    rw [List.foldl_cons, ih, bit_or, List.contains_cons, Bool.or_assoc]
    congr 1
    by_cases h : c = i
    · subst h; simp
    · have h2 : i ≠ c := Ne.symm h
      simp [h, h2]
theorem lastI_snoc (l : List Nat) (c : Nat) : lastI (l ++ [c]) = c := by simp [lastI]
theorem secL_snoc (l : List Nat) (c : Nat) : secL (l ++ [c]) = lastI l := by simp [secL]
def can (s : Sh) (now : List Nat) (c : Nat) : Bool := !now.contains c && decide (s.why c (lastI now) (secL now) (setOf now) = 0)
def ext (s : Sh) : Nat → List Nat → List (List Nat)
  | 0, now => [now]
  | k + 1, now => ((List.range s.acts.length).filter (s.can now)).flatMap fun c => ext s k (now ++ [c])
structure Fits (now : List Nat) (x : St) : Prop where
  last : lastI now = x.last
  sec : secL now = secI x
  set : setOf now = x.set
  good : Good x
theorem can_may {now : List Nat} {x : St} (h : Fits now x) (c : Nat) : s.can now c = s.may x c := by
  unfold can may
  rw [h.last, h.sec, h.set, ← setOf_bit, h.set]
theorem fits_to {now : List Nat} {x : St} (h : Fits now x) {c : Nat} (hc : s.may x c = true) : Fits (now ++ [c]) (to x c) := by
  unfold may at hc
  rw [Bool.and_eq_true] at hc
  have hb : x.set.testBit c = false := by simpa using hc.1
  refine ⟨by rw [lastI_snoc]; rfl, by rw [secL_snoc, h.last, secI_to h.good hb], by rw [setOf_snoc, h.set]; rfl, good_to x c⟩
theorem flat_congr {α β : Type} {f g : α → List β} : ∀ {l : List α}, (∀ x ∈ l, f x = g x) → l.flatMap f = l.flatMap g
  | [], _ => rfl
  | x :: l, h => by rw [List.flatMap_cons, List.flatMap_cons, h x (by simp), flat_congr (l := l) (fun y hy => h y (by simp [hy]))]
theorem ext_pths : ∀ (k : Nat) (now : List Nat) (x : St), Fits now x → s.ext k now = (s.pths k x).map (now ++ ·)
  | 0, now, x, _ => by simp [ext, pths]
  | k + 1, now, x, h => by
    unfold ext pths fol
    rw [List.map_flatMap, List.flatMap_map]
    have e : (List.range s.acts.length).filter (s.can now) = (List.range s.acts.length).filter (s.may x) := by
      congr 1; funext c; exact can_may h c
    rw [e]
    refine flat_congr fun c hc => ?_
    have hm := (List.mem_filter.1 hc).2
    rw [ext_pths k _ _ (fits_to h hm), List.map_map]
    refine List.map_congr_left fun p _ => ?_
    simp [nx]
theorem ext_progs (hok : s.Ok) : s.ext s.acts.length [] = s.progs := by
  have hn := hok.n1
  obtain ⟨m, hm⟩ : ∃ m, s.acts.length = m + 1 := ⟨s.acts.length - 1, by omega⟩
  unfold progs
  rw [hm, show s.ext (m + 1) [] = ((List.range s.acts.length).filter (s.can [])).flatMap fun c => s.ext m ([] ++ [c]) from rfl]
  have e : (List.range s.acts.length).filter (s.can []) = s.firsts := by
    unfold firsts
    congr 1
  rw [e]
  refine flat_congr fun c _ => ?_
  rw [show ([] : List Nat) ++ [c] = [c] from rfl, ext_pths m [c] (one c) ⟨rfl, by simp [secL, lastI, secI, one], by simp [setOf, one], good_one c⟩]
  rfl
/-- what the search finds -/
theorem search_spec (hok : s.Ok) : (s.ext s.acts.length []).foldl (pick s.cost) none = s.solve := by rw [ext_progs hok, solve_spec hok]

/- tables -/
def real (x : St) : Bool := x.set.testBit x.last && x.set.testBit x.sec && (decide (x.set = 2 ^ x.last) == decide (x.last = x.sec))
def atT (s : Sh) (T : List (List Int)) (x : St) : Int := (T.getD x.set []).getD (x.last * s.acts.length + x.sec) 0
def shapeB (s : Sh) (T : List (List Int)) : Bool := decide (T.length = s.whole + 1) && T.all fun r => decide (r.length = s.acts.length * s.acts.length) && r.all fun k => btw k 0 maxT
/-- is a table right at a state? -/
def cellB (s : Sh) (T : List (List Int)) (x : St) : Bool := !real x || (!(decide (x.set = s.whole) && decide (s.atT T x ≠ 0)) && !(s.fol x).any fun y => decide (s.atT T x > y.cost + s.atT T y.st))
def cellsB (s : Sh) (T : List (List Int)) : Bool := (List.range (s.whole + 1)).all fun t => (List.range s.acts.length).all fun a => (List.range s.acts.length).all fun b => s.cellB T ⟨t, a, b⟩
def rightT (s : Sh) (T : List (List Int)) : Bool := s.shapeB T && s.cellsB T
def bound (s : Sh) (T : List (List Int)) : Int := minL maxT (s.firsts.map fun a => s.atT T (one a))
theorem real_one (a : Nat) : real (one a) = true := by simp [real, one]
theorem real_to {x : St} {c : Nat} (hx : Good x) (hc : x.set.testBit c = false) : real (to x c) = true := by
  unfold real to
  simp only
  unfold Good at hx
  have hne : c ≠ x.last := fun e => by subst e; rw [hx] at hc; cases hc
  rw [bit_or, bit_or, hx]
  have h2 : (x.set ||| 2 ^ c) ≠ 2 ^ c := fun e => by
    have := congrArg (fun t => t.testBit x.last) e
    simp only [bit_or, hx, Bool.true_or, Nat.testBit_two_pow] at this
    exact hne (of_decide_eq_true this.symm)
  simp [hne, h2]
theorem real_good {x : St} (h : real x = true) : Good x := by
  unfold real at h
  rw [Bool.and_eq_true, Bool.and_eq_true] at h
  exact h.1.1
theorem cells_at {T : List (List Int)} (h : s.cellsB T = true) {x : St} (h1 : x.set < s.whole + 1) (h2 : x.last < s.acts.length) (h3 : x.sec < s.acts.length) (hr : real x = true) :
    (x.set = s.whole → s.atT T x = 0) ∧ ∀ y ∈ s.fol x, s.atT T x ≤ y.cost + s.atT T y.st := by
  unfold cellsB at h
  rw [List.all_eq_true] at h
  have a1 := h x.set (by simpa using h1)
  rw [List.all_eq_true] at a1
  have a2 := a1 x.last (by simpa using h2)
  rw [List.all_eq_true] at a2
  have a3 := a2 x.sec (by simpa using h3)
  have e : (⟨x.set, x.last, x.sec⟩ : St) = x := rfl
  rw [e] at a3
  unfold cellB at a3
  rw [hr] at a3
  simp only [Bool.not_true, Bool.false_or, Bool.and_eq_true, Bool.not_eq_true', Bool.and_eq_false_iff, decide_eq_false_iff_not, List.any_eq_false, decide_eq_true_eq] at a3
  refine ⟨fun hw => ?_, fun y hy => ?_⟩
  · rcases a3.1 with h | h
    · exact absurd hw h
    · exact Decidable.of_not_not h
  · have := a3.2 y hy; omega
theorem at_le {T : List (List Int)} (h : s.cellsB T = true) : ∀ (p : List Nat) (x : St), real x = true → x.set < 2 ^ s.acts.length → x.last < s.acts.length → x.sec < s.acts.length → s.left x = p.length → s.goes x p = true → s.atT T x ≤ s.pc x.last p
  | [], x, hr, hs, h2, h3, hl, _ => by
    have hw := (whole_iff hs).2 hl
    have := (cells_at h (by rw [hw]; omega) h2 h3 hr).1 hw
    unfold pc
    omega
  | c :: r, x, hr, hs, h2, h3, hl, hg => by
    simp only [goes, Bool.and_eq_true, decide_eq_true_eq] at hg
    obtain ⟨⟨g1, g2⟩, g3⟩ := hg
    have hb : x.set.testBit c = false := by
      unfold may at g2
      rw [Bool.and_eq_true] at g2
      simpa using g2.1
    have hlt := may_lt g1 g2
    simp at hl
    have ih := at_le h r (to x c) (real_to (real_good hr) hb) (or_lt hs g1) g1 h2 (by omega) g3
    have hx1 : x.set < s.whole + 1 := by unfold whole; omega
    have := (cells_at h hx1 h2 h3 hr).2 (s.nx x c) (by unfold fol; exact List.mem_map_of_mem (List.mem_filter.2 ⟨by simpa using g1, g2⟩))
    have e1 : (s.nx x c).cost = s.chC x.last c := rfl
    have e2 : (s.nx x c).st = to x c := rfl
    have e3 : (to x c).last = c := rfl
    rw [e1, e2] at this
    rw [e3] at ih
    unfold pc
    omega
/-- **No programme costs less than the bound of a right table.** -/
theorem bound_le {T : List (List Int)} (h : s.rightT T = true) {p : List Nat} (hp : p ∈ s.progs) : s.bound T ≤ s.cost p := by
  unfold rightT at h
  rw [Bool.and_eq_true] at h
  simp only [progs, List.mem_flatMap, List.mem_map] at hp
  obtain ⟨a, ha, q, hq, rfl⟩ := hp
  have hl := firsts_lt ha
  obtain ⟨h1, h2⟩ := (pths_iff _ _ q).1 hq
  have h3 := left_one hl
  have := at_le h.2 q (one a) (real_one a) (one_lt hl) hl hl (by omega) h2
  have h4 : s.bound T ≤ s.atT T (one a) := minL_mem_le (List.mem_map_of_mem ha)
  have e : s.cost (a :: q) = s.pc (one a).last q := rfl
  omega
/-- the table of the best -/
def cellV (s : Sh) (x : St) : Int := if real x = true then s.best x else 0
def rowV (s : Sh) (t : Nat) : List Int := (List.range (s.acts.length * s.acts.length)).map fun i => s.cellV ⟨t, i / s.acts.length, i % s.acts.length⟩
def tabV (s : Sh) : List (List Int) := (List.range (s.whole + 1)).map s.rowV
theorem atT_tab {x : St} (h1 : x.set < s.whole + 1) (h2 : x.last < s.acts.length) (h3 : x.sec < s.acts.length) : s.atT s.tabV x = s.cellV x := by
  unfold atT
  have e0 : s.tabV.getD x.set [] = s.rowV x.set := by unfold tabV; simp [h1]
  rw [e0]
  have hi : x.last * s.acts.length + x.sec < s.acts.length * s.acts.length := by
    have := Nat.mul_le_mul_right s.acts.length (show x.last + 1 ≤ s.acts.length from h2)
    rw [Nat.add_mul, Nat.one_mul] at this
    omega
  unfold rowV
  rw [List.getD_eq_getElem?_getD, List.getElem?_map, List.getElem?_range hi]
  simp only [Option.map_some, Option.getD_some]
  have hn : 0 < s.acts.length := by omega
  rw [Nat.mul_comm, Nat.mul_add_div hn, Nat.div_eq_of_lt h3, Nat.add_zero, Nat.mul_add_mod, Nat.mod_eq_of_lt h3]
theorem foldl_min_bd (l : List Nx) (f : Nx → Int) (m : Int) (hm : 0 ≤ m) (h : ∀ y ∈ l, 0 ≤ f y) : 0 ≤ l.foldl (fun n y => min n (f y)) m := by
  induction l generalizing m with
  | nil => exact hm
  | cons y l ih =>
    have := h y (by simp)
    exact ih (min m (f y)) (by omega) (fun z hz => h z (by simp [hz]))
theorem bst_bd (hok : s.Ok) : ∀ (k : Nat) (x : St), 0 ≤ s.bst k x ∧ s.bst k x ≤ maxT
  | 0, x => by unfold bst; split <;> decide
  | k + 1, x => by
    unfold bst
    constructor
    · refine foldl_min_bd _ (fun y => y.cost + s.bst k y.st) _ (by split <;> decide) (fun y hy => ?_)
      obtain ⟨c, _, _, rfl⟩ := fol_mem hy
      have h1 := hok.chC x.last c
      have h2 := bst_bd hok k (s.nx x c).st
      show 0 ≤ s.chC x.last c + _
      omega
    · rw [foldl_min _ (fun y => y.cost + s.bst k y.st)]
      refine Int.le_trans (minL_le _ _) (by split <;> decide)
theorem best_bd (hok : s.Ok) (x : St) : 0 ≤ s.best x ∧ s.best x ≤ maxT := bst_bd hok _ x
theorem cellV_bd (hok : s.Ok) (x : St) : 0 ≤ s.cellV x ∧ s.cellV x ≤ maxT := by
  unfold cellV
  split
  · exact best_bd hok x
  · decide
/-- **The table of the best is right**, and its bound is the least cost. -/
theorem tab_right (hok : s.Ok) : s.rightT s.tabV = true := by
  unfold rightT
  rw [Bool.and_eq_true]
  constructor
  · unfold shapeB
    rw [Bool.and_eq_true, List.all_eq_true]
    refine ⟨by simp [tabV], fun r hr => ?_⟩
    unfold tabV at hr
    obtain ⟨t, -, rfl⟩ := List.mem_map.1 hr
    rw [Bool.and_eq_true, List.all_eq_true]
    refine ⟨by simp [rowV], fun k hk => ?_⟩
    unfold rowV at hk
    obtain ⟨i, -, rfl⟩ := List.mem_map.1 hk
    exact btw_iff.2 (cellV_bd hok _)
  · unfold cellsB
    simp only [List.all_eq_true, List.mem_range]
    intro t ht a ha b hb
    unfold cellB
    cases hr : real ⟨t, a, b⟩
    · rfl
    · have ht2 : t < 2 ^ s.acts.length := by unfold whole at ht; have := Nat.two_pow_pos s.acts.length; omega
      rw [atT_tab (x := ⟨t, a, b⟩) ht ha hb]
      have hv : s.cellV ⟨t, a, b⟩ = s.best ⟨t, a, b⟩ := by unfold cellV; rw [if_pos hr]
      rw [hv]
      simp only [Bool.not_true, Bool.false_or, Bool.and_eq_true, Bool.not_eq_true', Bool.and_eq_false_iff, decide_eq_false_iff_not, List.any_eq_false, decide_eq_true_eq]
      constructor
      · by_cases hw : t = s.whole
        · right
          have := (whole_iff (s := s) ht2).1 hw
          rw [Decidable.not_not]
          unfold best left
          simp only
          rw [this]
          simp [bst, hw]
        · exact .inl hw
      · intro y hy hgt
        have hle : s.best ⟨t, a, b⟩ ≤ y.cost + s.best y.st := by rw [best_min ⟨t, a, b⟩]; exact minL_mem_le (List.mem_map_of_mem hy)
        have hys := fol_set (s := s) (x := ⟨t, a, b⟩) ht2 hy
        obtain ⟨c, h1, h2, rfl⟩ := fol_mem hy
        have hcb : t.testBit c = false := by
          unfold may at h2
          rw [Bool.and_eq_true] at h2
          simpa using h2.1
        have hy1 : (s.nx ⟨t, a, b⟩ c).st.set < s.whole + 1 := by unfold whole; omega
        rw [atT_tab hy1 h1 ha] at hgt
        have : s.cellV (s.nx ⟨t, a, b⟩ c).st = s.best (s.nx ⟨t, a, b⟩ c).st := by
          unfold cellV
          rw [if_pos (show real (s.nx ⟨t, a, b⟩ c).st = true from real_to (x := ⟨t, a, b⟩) (real_good hr) hcb)]
        omega
theorem tab_bound : s.bound s.tabV = s.least := by
  unfold bound least
  congr 1
  refine List.map_congr_left fun a ha => ?_
  have hl := firsts_lt ha
  have := one_lt (s := s) hl
  rw [atT_tab (by unfold whole; omega) hl hl]
  unfold cellV
  rw [if_pos (real_one a)]
end Sh
end Go.Pg

/- Orders: what a sorted list says. -/
namespace Go.Pl
theorem insR_falls (x : Int) : ∀ T : List Int, T.Pairwise (fun a b => b ≤ a) → (insR (fun s => decide (x - s < 0)) x T).Pairwise (fun a b => b ≤ a)
  | [], _ => by simp [insR]
  | s :: t, h => by
    have h1 := List.pairwise_cons.1 h
    unfold insR
    by_cases hp : x - s < 0
    · rw [if_pos (by simpa using hp)]
      refine List.pairwise_cons.2 ⟨fun y hy => ?_, insR_falls x t h1.2⟩
      rcases List.mem_cons.1 ((insR_perm _ x t).mem_iff.1 hy) with rfl | hy
      · omega
      · exact h1.1 y hy
    · rw [if_neg (by simpa using hp)]
      refine List.pairwise_cons.2 ⟨fun y hy => ?_, h⟩
      rcases List.mem_cons.1 hy with rfl | hy
      · omega
      · have := h1.1 y hy; omega
theorem sortL_sorted (l : List Int) : (sortL (fun a b => a - b) l).Pairwise (fun a b => a ≤ b) := by
  have : ∀ (l S : List Int), S.Pairwise (fun a b => a ≤ b) → (l.foldl (ins1 (fun a b => a - b)) S).Pairwise (fun a b => a ≤ b) := by
    intro l
    induction l with
    | nil => intro S h; exact h
    | cons x l ih =>
      intro S h
      rw [List.foldl_cons]
      refine ih _ ?_
      unfold ins1
      rw [List.pairwise_reverse]
      exact insR_falls x _ (by rw [List.pairwise_reverse]; exact h)
  exact this l [] List.Pairwise.nil
theorem upto_sorted (n : Nat) : (upto n).Pairwise (fun a b => a < b) := by
  induction n with
  | zero => exact List.Pairwise.nil
  | succ n ih =>
    rw [upto_succ, List.pairwise_append]
    refine ⟨ih, by simp, fun a ha b hb => ?_⟩
    simp at hb
    have := mem_upto.1 ha
    omega
theorem upto_nodup (n : Nat) : (upto n).Nodup := (upto_sorted n).imp (fun {a b} h => by omega)
theorem ord_perm {l : List Int} {n : Nat} (h1 : l.length = n) (h2 : ∀ x ∈ l, 0 ≤ x ∧ x < n) (h3 : l.Nodup) : l.Perm (upto n) := by
  rw [List.perm_iff_count]
  intro a
  by_cases ha : a ∈ l
  · rw [h3.count, (upto_nodup n).count, if_pos ha, if_pos (mem_upto.2 (h2 a ha))]
  · have hu : a ∉ upto n := fun hu => by
      have hs : l ⊆ (upto n).erase a := fun x hx => by
        have hne : x ≠ a := fun e => ha (e ▸ hx)
        exact (List.mem_erase_of_ne hne).2 (mem_upto.2 (h2 x hx))
      have := h3.length_le_of_subset hs
      rw [List.length_erase_of_mem hu, upto_len] at this
      have hn := (mem_upto.1 hu)
      omega
    rw [List.count_eq_zero_of_not_mem ha, List.count_eq_zero_of_not_mem hu]
theorem upto_get {n i : Nat} (h : i < n) : (upto n)[i]? = some (i : Int) := by simp [upto, h]
end Go.Pl
namespace Go.Pg
open Go.Pl
/-- is a list of numbers an order of n acts? -/
def ordB (n : Nat) (l : List Int) : Bool := decide (l.length = n ∧ (∀ x ∈ l, 0 ≤ x ∧ x < n) ∧ l.Nodup)
theorem ord_iff {n : Nat} {l : List Int} : ordB n l = true ↔ l.length = n ∧ (∀ x ∈ l, 0 ≤ x ∧ x < n) ∧ l.Nodup := by unfold ordB; rw [decide_eq_true_iff]
/-- what the program asks of the sorted list -/
theorem ord_sorted (n : Nat) (l : List Int) : ordB n l = true ↔ sortL (fun a b => a - b) l = upto l.length ∧ l.length = n := by
  rw [ord_iff]
  constructor
  · rintro ⟨h1, h2, h3⟩
    refine ⟨?_, h1⟩
    rw [h1]
    refine List.Perm.eq_of_pairwise (le := fun a b => a ≤ b) (fun a b _ _ h h' => by omega) (sortL_sorted l) ((upto_sorted n).imp (fun {a b} h => by omega)) ((sortL_perm _ l).trans (ord_perm h1 h2 h3))
  · rintro ⟨h1, h2⟩
    have hp : l.Perm (upto l.length) := by rw [← h1]; exact (sortL_perm _ l).symm
    refine ⟨h2, fun x hx => ?_, hp.nodup_iff.2 (upto_nodup _)⟩
    have := mem_upto.1 (hp.mem_iff.1 hx)
    omega
/-- numbers as ints -/
def toI (k : List Nat) : List Int := k.map fun (i : Nat) => (i : Int)
theorem toI_len (k : List Nat) : (toI k).length = k.length := List.length_map _
theorem toI_get {k : List Nat} {i : Nat} (h : i < k.length) : (toI k)[i]'(by rw [toI_len]; exact h) = (k[i] : Int) := by simp [toI]
theorem ord_nat {n : Nat} {l : List Int} (h : ordB n l = true) : ∃ k : List Nat, l = toI k ∧ k.length = n ∧ (∀ i ∈ k, i < n) ∧ k.Nodup := by
  obtain ⟨h1, h2, h3⟩ := ord_iff.1 h
  have e : l = toI (l.map Int.toNat) := by
    unfold toI
    rw [List.map_map]
    refine (List.map_id' l).symm.trans (List.map_congr_left fun x hx => ?_)
    have := h2 x hx
    simp only [Function.comp]
    omega
  refine ⟨l.map Int.toNat, e, by simp [h1], fun i hi => ?_, ?_⟩
  · obtain ⟨x, hx, rfl⟩ := List.mem_map.1 hi
    have := h2 x hx
    omega
  · rw [e] at h3
    unfold toI at h3
    rw [List.nodup_iff_pairwise_ne, List.pairwise_map] at h3
    rw [List.nodup_iff_pairwise_ne]
    exact h3.imp (fun {a b} hab e => hab (by rw [e]))
theorem ord_toI {n : Nat} {k : List Nat} (h1 : k.length = n) (h2 : ∀ i ∈ k, i < n) (h3 : k.Nodup) : ordB n (toI k) = true := by
  refine ord_iff.2 ⟨by rw [toI_len, h1], fun x hx => ?_, ?_⟩
  · obtain ⟨i, hi, rfl⟩ := List.mem_map.1 hx
    have := h2 i hi
    omega
  · unfold toI
    rw [List.nodup_iff_pairwise_ne, List.pairwise_map]
    exact (List.nodup_iff_pairwise_ne.1 h3).imp (fun {a b} hab e => hab (by omega))
theorem isOrd_iff {s : Sh} {k : List Nat} : s.isOrd k = true ↔ k.length = s.acts.length ∧ (∀ c ∈ k, c < s.acts.length) ∧ k.Nodup := by unfold Sh.isOrd; rw [decide_eq_true_iff]
end Go.Pg

/- Sheets: when the acts begin and end. -/
namespace Go.Pg
open Go.Pl
namespace Sh
variable {s : Sh}
def endsL (s : Sh) : Nat → Int → List Nat → List Int
  | _, t, [] => [t]
  | a, t, b :: r => t :: endsL s b (t + s.chM a b + (s.act b).min) r
theorem ends_zero (a : Nat) (t : Int) (r : List Nat) : (s.endsL a t r).getD 0 0 = t := by cases r <;> rfl
theorem sheetL_len : ∀ (r : List Nat) (a : Nat) (t : Int), (s.sheetL a t r).1.length = r.length
  | [], _, _ => rfl
  | b :: r, a, t => by
    show ((t + s.chM a b) :: (s.sheetL b (t + s.chM a b + (s.act b).min) r).1).length = _
    rw [List.length_cons, sheetL_len r, List.length_cons]
theorem sheetL_at : ∀ (r : List Nat) (a : Nat) (t : Int) (i : Nat), i < r.length → (s.sheetL a t r).1.getD i 0 = (s.endsL a t r).getD i 0 + s.chM ((a :: r).getD i 0) (r.getD i 0) ∧ (s.endsL a t r).getD (i + 1) 0 = (s.sheetL a t r).1.getD i 0 + (s.act (r.getD i 0)).min
  | [], _, _, i, h => by simp at h
  | b :: r, a, t, 0, h => by
    show (t + s.chM a b) = t + s.chM a b ∧ (s.endsL b (t + s.chM a b + (s.act b).min) r).getD 0 0 = (t + s.chM a b) + (s.act b).min
    rw [ends_zero]
    exact ⟨rfl, rfl⟩
  | b :: r, a, t, i + 1, h => by
    have := sheetL_at r b (t + s.chM a b + (s.act b).min) i (by simpa using h)
    exact this
theorem sheetL_end : ∀ (r : List Nat) (a : Nat) (t : Int), (s.sheetL a t r).2 = (s.endsL a t r).getD r.length 0
  | [], _, _ => rfl
  | b :: r, a, t => sheetL_end r b (t + s.chM a b + (s.act b).min)
theorem ends_bd (hok : s.Ok) : ∀ (r : List Nat) (a : Nat) (t : Int), 0 ≤ t → (∀ c ∈ r, c < s.acts.length) → ∀ i, i ≤ r.length → 0 ≤ (s.endsL a t r).getD i 0 ∧ (s.endsL a t r).getD i 0 ≤ t + 1020 * i
  | r, a, t, ht, hr, 0, _ => by rw [ends_zero]; omega
  | [], a, t, ht, hr, i + 1, hi => by simp at hi
  | b :: r, a, t, ht, hr, i + 1, hi => by
    have h1 := hok.chM a b
    have h2 := (hok.act (hr b (by simp))).min
    have := ends_bd hok r b (t + s.chM a b + (s.act b).min) (by omega) (fun c hc => hr c (by simp [hc])) i (by simpa using hi)
    have e : (s.endsL a t (b :: r)).getD (i + 1) 0 = (s.endsL b (t + s.chM a b + (s.act b).min) r).getD i 0 := rfl
    rw [e]
    omega
/-- **The sheet, act by act.** -/
theorem sheet_facts (hok : s.Ok) {k : List Nat} (hne : 0 < k.length) (hk : ∀ c ∈ k, c < s.acts.length) : ∃ E : Nat → Int, (s.sheet k).1.length = k.length ∧ (s.sheet k).1.getD 0 0 = 0 ∧
    (∀ i, i < k.length → E i = (s.sheet k).1.getD i 0 + (s.act (k.getD i 0)).min) ∧ (∀ i, i + 1 < k.length → (s.sheet k).1.getD (i + 1) 0 = E i + s.chM (k.getD i 0) (k.getD (i + 1) 0)) ∧
    (s.sheet k).2 = E (k.length - 1) ∧ (∀ i, i < k.length → 0 ≤ E i ∧ E i ≤ 1020 * (i + 1)) ∧ ∀ i, i < k.length → 0 ≤ (s.sheet k).1.getD i 0 ∧ (s.sheet k).1.getD i 0 ≤ 1020 * (i + 1) := by
  cases k with
  | nil => simp at hne
  | cons a r =>
    have ha := (hok.act (hk a (by simp))).min
    have hbd := ends_bd hok r a (s.act a).min (by omega) (fun c hc => hk c (by simp [hc]))
    have hE : ∀ i, i < (a :: r).length → (s.endsL a (s.act a).min r).getD i 0 = (s.sheet (a :: r)).1.getD i 0 + (s.act ((a :: r).getD i 0)).min := by
      intro i hi
      cases i with
      | zero =>
        rw [ends_zero]
        show _ = 0 + (s.act a).min
        omega
      | succ i => exact (sheetL_at r a (s.act a).min i (by simpa using hi)).2
    have hb2 : ∀ i, i < (a :: r).length → 0 ≤ (s.endsL a (s.act a).min r).getD i 0 ∧ (s.endsL a (s.act a).min r).getD i 0 ≤ 1020 * (i + 1) := by
      intro i hi
      have := hbd i (by simp at hi; omega)
      omega
    have hst : ∀ i, i + 1 < (a :: r).length → (s.sheet (a :: r)).1.getD (i + 1) 0 = (s.endsL a (s.act a).min r).getD i 0 + s.chM ((a :: r).getD i 0) ((a :: r).getD (i + 1) 0) := fun i hi => (sheetL_at r a (s.act a).min i (by simpa using hi)).1
    refine ⟨fun i => (s.endsL a (s.act a).min r).getD i 0, ?_, rfl, hE, hst, ?_, hb2, fun i hi => ?_⟩
    · show (0 :: (s.sheetL a (s.act a).min r).1).length = _
      rw [List.length_cons, sheetL_len, List.length_cons]
    · show (s.sheetL a (s.act a).min r).2 = _
      rw [sheetL_end]
      simp
    · cases i with
      | zero => show (0 : Int) ≤ 0 ∧ (0 : Int) ≤ _; omega
      | succ i =>
        have h1 := hE (i + 1) hi
        have h2 := hb2 (i + 1) hi
        have h3 := hst i hi
        have h4 := hb2 i (by omega)
        have h5 := hok.chM ((a :: r).getD i 0) ((a :: r).getD (i + 1) 0)
        have hm : (a :: r).getD (i + 1) 0 ∈ a :: r := by
          rw [List.getD_eq_getElem?_getD, List.getElem?_eq_getElem hi]; exact List.getElem_mem hi
        have h6 := (hok.act (hk _ hm)).min
        omega
end Sh
end Go.Pg

/- Easier shows: with a greater cover, lesser rests, fewer pairs, the best cost is not more. -/
namespace Go.Pg
open Go.Pl
namespace Sh
variable {s t : Sh}
/-- t asks no more than s -/
structure Less (s t : Sh) : Prop where
  acts : t.acts = s.acts
  ins : t.ins = s.ins
  outs : t.outs = s.outs
  dull : t.dull = s.dull
  cover : s.cover ≤ t.cover
  rest : ∀ p, t.rest.getD p 0 ≤ s.rest.getD p 0
  before : ∀ q ∈ t.before, q ∈ s.before
theorem Less.act (h : Less s t) (i : Nat) : t.act i = s.act i := by unfold Sh.act; rw [h.acts]
theorem Less.chM (h : Less s t) (a b : Nat) : t.chM a b = s.chM a b := by unfold Sh.chM; rw [h.act, h.act, h.ins, h.outs]
theorem Less.chC (h : Less s t) (a b : Nat) : t.chC a b = s.chC a b := by unfold Sh.chC; rw [h.chM, h.act, h.act, h.dull]
theorem Less.pc (h : Less s t) : ∀ (r : List Nat) (a : Nat), t.pc a r = s.pc a r
  | [], _ => rfl
  | b :: r, a => by show t.chC a b + t.pc b r = s.chC a b + s.pc b r; rw [h.chC, Less.pc h r b]
theorem Less.cost (h : Less s t) (l : List Nat) : t.cost l = s.cost l := by
  cases l with
  | nil => rfl
  | cons a r => exact h.pc r a
theorem Less.tired (h : Less s t) {a b : Nat} {bt : Int} (ht : s.tired a b bt = false) : t.tired a b bt = false := by
  unfold Sh.tired Sh.cast at *
  rw [List.any_eq_false] at *
  intro p hp hx
  refine ht p hp ?_
  rw [h.act, h.act] at hx
  simp only [Bool.and_eq_true, decide_eq_true_eq] at hx ⊢
  have := h.rest p
  exact ⟨hx.1, by omega⟩
theorem Less.early (h : Less s t) {i set : Nat} (he : s.early i set = false) : t.early i set = false := by
  unfold Sh.early at *
  rw [List.any_eq_false] at *
  exact fun q hq => he q (h.before q hq)
theorem why_iff (i : Nat) (last sec : Int) (set : Nat) : s.why i last sec set = 0 ↔ (0 ≤ last → s.chM last.toNat i ≤ s.cover) ∧ (0 ≤ last → s.tired last.toNat i 0 = false) ∧ (0 ≤ sec → s.tired sec.toNat i 1 = false) ∧ s.early i set = false := by
  unfold Sh.why
  constructor
  · intro h
    split at h
    · cases h
    · rename_i h1
      split at h
      · cases h
      · rename_i h2
        split at h
        · cases h
        · rename_i h3
          simp only [Bool.and_eq_true, Bool.or_eq_true, decide_eq_true_eq, not_and, not_or, Int.not_lt, Bool.not_eq_true] at h1 h2 h3
          exact ⟨h1, h2.1, h2.2, h3⟩
  · rintro ⟨h1, h2, h3, h4⟩
    rw [if_neg, if_neg, if_neg]
    · simp [h4]
    · simp only [Bool.and_eq_true, Bool.or_eq_true, decide_eq_true_eq, not_and, not_or, Bool.not_eq_true]
      exact ⟨h2, h3⟩
    · simp only [Bool.and_eq_true, decide_eq_true_eq, not_and, Int.not_lt]
      exact h1
theorem Less.why (h : Less s t) {i : Nat} {last sec : Int} {set : Nat} (hw : s.why i last sec set = 0) : t.why i last sec set = 0 := by
  obtain ⟨h1, h2, h3, h4⟩ := (why_iff ..).1 hw
  refine (why_iff ..).2 ⟨fun hl => ?_, fun hl => h.tired (h2 hl), fun hl => h.tired (h3 hl), h.early h4⟩
  have := h1 hl
  have := h.cover
  rw [h.chM]; omega
theorem Less.faultL (h : Less s t) : ∀ (r : List Nat) (i : Nat) (last sec : Int) (set : Nat), (s.faultL r i last sec set).2 = 0 → (t.faultL r i last sec set).2 = 0
  | [], _, _, _, _, _ => rfl
  | a :: r, i, last, sec, set, hf => by
    unfold Sh.faultL at hf ⊢
    by_cases hw : s.why a last sec set = 0
    · rw [if_pos hw] at hf
      rw [if_pos (h.why hw)]
      exact Less.faultL h r _ _ _ _ hf
    · rw [if_neg hw] at hf
      exact absurd hf hw
/-- **What asks no more has a best programme that costs no more.** -/
theorem easier (hs : s.Ok) (ht : t.Ok) (h : Less s t) {p : List Nat} (hp : s.solve = some p) : ∃ q, t.solve = some q ∧ t.least ≤ s.least := by
  obtain ⟨h1, h2, -⟩ := solve_some hs hp
  obtain ⟨h3, h4⟩ := (progs_iff hs).1 h1
  have hm : p ∈ t.progs := (progs_iff ht).2 ⟨by unfold isOrd at *; rw [h.acts]; exact h3, h.faultL _ _ _ _ _ h4⟩
  cases hq : t.solve with
  | none =>
    rw [(solve_none ht).1 hq] at hm
    simp at hm
  | some q =>
    refine ⟨q, rfl, ?_⟩
    have := least_le ht hm
    rw [h.cost] at this
    omega
/-- a valid show that asks no more and is in the bounds is valid -/
theorem set_getD_le {l : List Int} {k : Nat} {x : Int} (h : x ≤ l.getD k 0) (p : Nat) : (l.set k x).getD p 0 ≤ l.getD p 0 := by
  by_cases hk : k = p
  · subst hk
    by_cases hl : k < l.length
    · simp [hl] at h ⊢; exact h
    · rw [List.set_eq_of_length_le (by omega)]; exact Int.le_refl _
  · rw [List.getD_eq_getElem?_getD, List.getElem?_set_ne hk, ← List.getD_eq_getElem?_getD]; exact Int.le_refl _
theorem less_cover {c : Int} (h : s.cover ≤ c) : Less s {s with cover := c} := ⟨rfl, rfl, rfl, rfl, h, fun _ => Int.le_refl _, fun _ h => h⟩
theorem less_rest {k : Nat} {x : Int} (h : x ≤ s.rest.getD k 0) : Less s {s with rest := s.rest.set k x} := ⟨rfl, rfl, rfl, rfl, Int.le_refl _, set_getD_le h, fun _ h => h⟩
theorem less_before : Less s {s with before := s.before.dropLast} := ⟨rfl, rfl, rfl, rfl, Int.le_refl _, fun _ => Int.le_refl _, fun _ h => (List.dropLast_sublist _).subset h⟩
theorem ok_cover (hs : s.Ok) {c : Int} (h : 0 ≤ c ∧ c ≤ 60) : Sh.Ok {s with cover := c} := ⟨hs.n1, hs.n8, hs.r16, hs.rest, hs.i10, hs.oi, hs.ins, hs.outs, h, hs.dull, hs.b20, hs.acts, hs.before⟩
theorem ok_rest (hs : s.Ok) {k : Nat} {x : Int} (h : 0 ≤ x ∧ x ≤ 2) : Sh.Ok {s with rest := s.rest.set k x} := by
  refine ⟨hs.n1, hs.n8, by simpa using hs.r16, fun y hy => ?_, hs.i10, hs.oi, hs.ins, hs.outs, hs.cover, hs.dull, hs.b20, fun a ha => ?_, hs.before⟩
  · rcases List.mem_or_eq_of_mem_set hy with h1 | h1
    · exact hs.rest y h1
    · rw [h1]; exact h
  · have := staged_iff.1 (hs.acts a ha)
    exact staged_iff.2 ⟨this.min, this.ten, this.rigs, this.c1, this.c4, fun c hc => by rw [List.length_set]; exact this.casts c hc⟩
theorem ok_before (hs : s.Ok) : Sh.Ok {s with before := s.before.dropLast} := by
  have := hs.b20
  exact ⟨hs.n1, hs.n8, hs.r16, hs.rest, hs.i10, hs.oi, hs.ins, hs.outs, hs.cover, hs.dull, by simp; omega, hs.acts, fun p hp => hs.before p ((List.dropLast_sublist _).subset hp)⟩
end Sh
end Go.Pg

/- Programmes: all of them, the best one, what is left of a state; the first of the least. -/
import Derived.Test.YtcnidhcdkbfpcaaPrgP
namespace Go.Pg
open Go.Pl
/- the first of the least -/
section
variable {α : Type}
def minL (m : Int) (l : List Int) : Int := l.foldl min m
theorem minL_le (m : Int) (l : List Int) : minL m l ≤ m := by
  induction l generalizing m with
  | nil => exact Int.le_refl _
  | cons x l ih => exact Int.le_trans (ih (min m x)) (Int.min_le_left _ _)
theorem minL_mem_le {m x : Int} {l : List Int} (h : x ∈ l) : minL m l ≤ x := by
  induction l generalizing m with
  | nil => simp at h
  | cons y l ih =>
    rcases List.mem_cons.1 h with rfl | h
    · exact Int.le_trans (minL_le _ l) (Int.min_le_right _ _)
    · exact ih h
theorem minL_hit (m : Int) (l : List Int) : minL m l = m ∨ minL m l ∈ l := by
  induction l generalizing m with
  | nil => exact .inl rfl
  | cons y l ih =>
    have h := ih (min m y)
    rw [show minL m (y :: l) = minL (min m y) l from rfl]
    rcases h with h | h
    · rcases Int.le_total m y with h2 | h2
      · left; omega
      · right; rw [h]; simp; left; omega
    · right; exact List.mem_cons_of_mem _ h
theorem minL_append (m : Int) (a b : List Int) : minL m (a ++ b) = minL (minL m a) b := by simp [minL]
theorem minL_add (c m : Int) (l : List Int) : minL (c + m) (l.map (c + ·)) = c + minL m l := by
  induction l generalizing m with
  | nil => rfl
  | cons x l ih =>
    show minL (min (c + m) (c + x)) (l.map (c + ·)) = c + minL (min m x) l
    rw [← ih, show min (c + m) (c + x) = c + min m x by omega]
theorem minL_min (a b : Int) (l : List Int) : minL (min a b) l = min a (minL b l) := by
  induction l generalizing b with
  | nil => rfl
  | cons x l ih => show minL (min (min a b) x) l = min a (minL (min b x) l); rw [Int.min_assoc, ih]
theorem min_add {a c m : Int} (l : List Int) (h : a ≤ c + m) : min a (c + minL m l) = minL a (l.map (c + ·)) := by
  rw [← minL_add, ← minL_min, show min a (c + m) = a by omega]
/-- one way against the best so far -/
def pick (c : α → Int) (b : Option α) (p : α) : Option α := match b with | none => some p | some q => if c p < c q then some p else some q
theorem pick_some (c : α → Int) : ∀ (l : List α) (b : α), l.foldl (pick c) (some b) = (b :: l).find? (fun p => decide (c p = minL (c b) (l.map c)))
  | [], b => by simp [minL]
  | p :: l, b => by
    rw [List.foldl_cons]
    have hm : minL (c b) ((p :: l).map c) = minL (min (c b) (c p)) (l.map c) := rfl
    by_cases h : c p < c b
    · rw [show pick c (some b) p = some p by simp [pick, h], pick_some c l p, hm, show min (c b) (c p) = c p by omega]
      rw [List.find?_cons (a := b), show decide (c b = minL (c p) (l.map c)) = false by have := minL_le (c p) (l.map c); simp; omega]
    · rw [show pick c (some b) p = some b by simp [pick, h], pick_some c l b, hm, show min (c b) (c p) = c b by omega]
      have h1 := minL_le (c b) (l.map c)
      by_cases hb : c b = minL (c b) (l.map c)
      · simp [← hb]
      · rw [List.find?_cons, List.find?_cons (a := b), List.find?_cons (a := p)]
        rw [show decide (c b = minL (c b) (l.map c)) = false by simpa using hb, show decide (c p = minL (c b) (l.map c)) = false by simp; omega]
theorem pick_none (c : α → Int) (m : Int) (l : List α) (h : ∀ x ∈ l, c x < m) : l.foldl (pick c) none = l.find? (fun p => decide (c p = minL m (l.map c))) := by
  cases l with
  | nil => rfl
  | cons p l =>
    rw [List.foldl_cons, show pick c none p = some p from rfl, pick_some]
    have := h p (by simp)
    rw [show minL m ((p :: l).map c) = minL (min m (c p)) (l.map c) from rfl, show min m (c p) = c p by omega]
end
structure St where
  set : Nat
  last : Nat
  sec : Nat
structure Nx where
  act : Nat
  cost : Int
  st : St
def maxT : Int := 1000000
/-- how many of the first n numbers a set has not -/
def leftR : Nat → Nat → Nat
  | 0, _ => 0
  | n + 1, set => leftR n set + if set.testBit n then 0 else 1
theorem bit_or (set c i : Nat) : (set ||| 2 ^ c).testBit i = (set.testBit i || decide (c = i)) := by
  rw [Nat.testBit_or, Nat.testBit_two_pow]
theorem left_or_ge {n set c : Nat} (h : n ≤ c) : leftR n (set ||| 2 ^ c) = leftR n set := by
  induction n with
  | zero => rfl
  | succ n ih => unfold leftR; rw [ih (by omega), bit_or, show decide (c = n) = false by simp; omega, Bool.or_false]
theorem left_or {n set c : Nat} (hc : c < n) (hb : set.testBit c = false) : leftR n (set ||| 2 ^ c) + 1 = leftR n set := by
  induction n with
  | zero => omega
  | succ n ih =>
    unfold leftR
    by_cases h : c = n
    · subst h
      rw [left_or_ge (Nat.le_refl _), bit_or]
      simp [hb]
    · have := ih (by omega)
      rw [bit_or, show decide (c = n) = false by simpa using h, Bool.or_false]
      omega
theorem left_zero {n set : Nat} (h : leftR n set = 0) {c : Nat} (hc : c < n) : set.testBit c = true := by
  induction n with
  | zero => omega
  | succ n ih =>
    unfold leftR at h
    by_cases hcn : c = n
    · subst hcn
      cases hb : set.testBit c
      · simp [hb] at h
      · rfl
    · exact ih (by omega) (by omega)
theorem left_full {n set : Nat} (h : ∀ c, c < n → set.testBit c = true) : leftR n set = 0 := by
  induction n with
  | zero => rfl
  | succ n ih => unfold leftR; rw [ih (fun c hc => h c (by omega)), h n (by omega)]; rfl
theorem left_le (n set : Nat) : leftR n set ≤ n := by
  induction n with
  | zero => exact Nat.le_refl _
  | succ n ih => unfold leftR; split <;> omega
theorem left_empty (n : Nat) : leftR n 0 = n := by
  induction n with
  | zero => rfl
  | succ n ih => unfold leftR; simp [ih]
theorem or_lt {n set c : Nat} (h : set < 2 ^ n) (hc : c < n) : set ||| 2 ^ c < 2 ^ n := Nat.or_lt_two_pow h (Nat.pow_lt_pow_right (by omega) hc)
namespace Sh
variable {s : Sh}
def whole (s : Sh) : Nat := 2 ^ s.acts.length - 1
theorem whole_bit (s : Sh) (c : Nat) : s.whole.testBit c = decide (c < s.acts.length) := by unfold whole; rw [Nat.testBit_two_pow_sub_one]
theorem whole_iff {set : Nat} (h : set < 2 ^ s.acts.length) : set = s.whole ↔ leftR s.acts.length set = 0 := by
  constructor
  · rintro rfl
    exact left_full fun c hc => by rw [whole_bit]; simpa using hc
  · intro h0
    refine Nat.eq_of_testBit_eq fun i => ?_
    rw [whole_bit]
    by_cases hi : i < s.acts.length
    · rw [left_zero h0 hi]; simp [hi]
    · rw [Nat.testBit_lt_two_pow (Nat.lt_of_lt_of_le h (Nat.pow_le_pow_right (by omega) (by omega)))]; simp [hi]
def secI (x : St) : Int := if x.sec = x.last then -1 else x.sec
/-- may an act follow? -/
def may (s : Sh) (x : St) (c : Nat) : Bool := !x.set.testBit c && decide (s.why c x.last (secI x) x.set = 0)
def to (x : St) (c : Nat) : St := ⟨x.set ||| 2 ^ c, c, x.last⟩
def nx (s : Sh) (x : St) (c : Nat) : Nx := ⟨c, s.chC x.last c, to x c⟩
def fol (s : Sh) (x : St) : List Nx := ((List.range s.acts.length).filter (s.may x)).map (s.nx x)
def left (s : Sh) (x : St) : Nat := leftR s.acts.length x.set
/-- the least cost of what is still to come, k acts -/
def bst (s : Sh) : Nat → St → Int
  | 0, x => if x.set = s.whole then 0 else maxT
  | k + 1, x => (s.fol x).foldl (fun n y => min n (y.cost + bst s k y.st)) (if x.set = s.whole then 0 else maxT)
def best (s : Sh) (x : St) : Int := s.bst (s.left x) x
theorem may_lt {x : St} {c : Nat} (hc : c < s.acts.length) (h : s.may x c = true) : s.left (to x c) + 1 = s.left x := by
  unfold may at h
  rw [Bool.and_eq_true] at h
  exact left_or hc (by simpa using h.1)
theorem fol_mem {x : St} {y : Nx} (h : y ∈ s.fol x) : ∃ c, c < s.acts.length ∧ s.may x c = true ∧ y = s.nx x c := by
  unfold fol at h
  obtain ⟨c, hc, rfl⟩ := List.mem_map.1 h
  obtain ⟨h1, h2⟩ := List.mem_filter.1 hc
  exact ⟨c, by simpa using h1, h2, rfl⟩
theorem fol_left {x : St} {y : Nx} (h : y ∈ s.fol x) : s.left y.st + 1 = s.left x := by
  obtain ⟨c, h1, h2, rfl⟩ := fol_mem h
  exact may_lt h1 h2
theorem fol_set {x : St} {y : Nx} (hx : x.set < 2 ^ s.acts.length) (h : y ∈ s.fol x) : y.st.set < 2 ^ s.acts.length := by
  obtain ⟨c, h1, h2, rfl⟩ := fol_mem h
  exact or_lt hx h1
theorem foldl_congr {α β : Type} {f g : β → α → β} {l : List α} (h : ∀ b, ∀ x ∈ l, f b x = g b x) (b : β) : l.foldl f b = l.foldl g b := by
  induction l generalizing b with
  | nil => rfl
  | cons x l ih => rw [List.foldl_cons, List.foldl_cons, h b x (by simp), ih (fun b y hy => h b y (by simp [hy]))]
/-- one state by those behind it -/
theorem best_step (x : St) : s.best x = (s.fol x).foldl (fun n y => min n (y.cost + s.best y.st)) (if x.set = s.whole then 0 else maxT) := by
  unfold best
  cases hk : s.left x with
  | zero =>
    have h0 : s.fol x = [] := by
      rcases List.eq_nil_or_concat (s.fol x) with h | ⟨l, y, h⟩
      · exact h
      · have := fol_left (s := s) (x := x) (y := y) (by rw [h]; simp)
        omega
    rw [h0]; rfl
  | succ k =>
    show (s.fol x).foldl (fun n y => min n (y.cost + bst s k y.st)) _ = _
    refine foldl_congr (fun b y hy => ?_) _
    have := fol_left hy
    rw [show s.left y.st = k by omega]
theorem foldl_min (l : List Nx) (f : Nx → Int) (m : Int) : l.foldl (fun n y => min n (f y)) m = minL m (l.map f) := by
  unfold minL; rw [List.foldl_map]
theorem best_min (x : St) : s.best x = minL (if x.set = s.whole then 0 else maxT) ((s.fol x).map fun y => y.cost + s.best y.st) := by
  rw [best_step, foldl_min]
/-- all ways to go on, k acts, in their order -/
def pths (s : Sh) : Nat → St → List (List Nat)
  | 0, _ => [[]]
  | k + 1, x => (s.fol x).flatMap fun y => (pths s k y.st).map (y.act :: ·)
theorem minL_flat {α : Type} (M : Int) (l : List α) (f : α → List Int) (g : α → Int) (h : ∀ y ∈ l, ∀ a, a ≤ M → min a (g y) = minL a (f y)) : ∀ a, a ≤ M → minL a (l.map g) = minL a (l.flatMap f) := by
  induction l with
  | nil => intro a _; rfl
  | cons y l ih =>
    intro a ha
    rw [List.flatMap_cons, minL_append, ← h y (by simp) a ha]
    show minL (min a (g y)) (l.map g) = _
    exact ih (fun z hz => h z (by simp [hz])) _ (by omega)
theorem best_pths (hok : s.Ok) : ∀ (k : Nat) (x : St), x.set < 2 ^ s.acts.length → s.left x = k → s.best x = minL maxT ((s.pths k x).map (s.pc x.last))
  | 0, x, hx, hk => by
    have : s.best x = 0 := by unfold best; rw [hk]; simp [bst, (whole_iff hx).2 hk]
    rw [this]; simp [pths, pc, minL, maxT]; omega
  | k + 1, x, hx, hk => by
    have hne : x.set ≠ s.whole := fun h => by have := (whole_iff hx).1 h; unfold left at hk; omega
    rw [best_min, if_neg hne]
    show _ = minL maxT (((s.fol x).flatMap fun y => (s.pths k y.st).map (y.act :: ·)).map (s.pc x.last))
    rw [List.map_flatMap]
    refine minL_flat maxT (s.fol x) _ _ (fun y hy a ha => ?_) maxT (Int.le_refl _)
    have hl := fol_left hy
    have ih := best_pths hok k y.st (fol_set hx hy) (by omega)
    obtain ⟨c, h1, h2, rfl⟩ := fol_mem hy
    have hc := hok.chC x.last c
    rw [ih, min_add _ (by show a ≤ s.chC x.last c + maxT; omega)]
    rw [List.map_map, List.map_map]
    rfl
/-- the greedy way by the least costs -/
def greedy (s : Sh) : Nat → St → List Nat
  | 0, _ => []
  | k + 1, x => match (s.fol x).find? (fun y => decide (y.cost + s.best y.st = s.best x)) with | none => [] | some y => y.act :: greedy s k y.st
theorem greedy_succ (k : Nat) (x : St) : s.greedy (k + 1) x = match (s.fol x).find? (fun y => decide (y.cost + s.best y.st = s.best x)) with | none => [] | some y => y.act :: s.greedy k y.st := rfl
theorem find_flat {α β : Type} (p : α → Bool) (f : β → List α) : ∀ l : List β, (l.flatMap f).find? p = l.findSome? (fun y => (f y).find? p)
  | [] => rfl
  | y :: l => by
    rw [List.flatMap_cons, List.find?_append, List.findSome?_cons, find_flat p f l]
    cases (f y).find? p <;> rfl
theorem find_some_of {α β : Type} (p : α → Bool) (g : α → Option β) (h : α → β) : ∀ l : List α, (∀ y ∈ l, p y = false → g y = none) → (∀ y ∈ l, p y = true → g y = some (h y)) → l.findSome? g = (l.find? p).map h
  | [], _, _ => rfl
  | y :: l, h1, h2 => by
    rw [List.findSome?_cons, List.find?_cons]
    cases hp : p y
    · rw [h1 y (by simp) hp]
      exact find_some_of p g h l (fun z hz => h1 z (by simp [hz])) (fun z hz => h2 z (by simp [hz]))
    · rw [h2 y (by simp) hp]; rfl
theorem greedy_spec (hok : s.Ok) : ∀ (k : Nat) (x : St), x.set < 2 ^ s.acts.length → s.left x = k → s.best x < maxT → (s.pths k x).find? (fun p => decide (s.pc x.last p = s.best x)) = some (s.greedy k x)
  | 0, x, hx, hk, hb => by
    have : s.best x = 0 := by unfold best; rw [hk]; simp [bst, (whole_iff hx).2 hk]
    rw [this]; rfl
  | k + 1, x, hx, hk, hb => by
    have hne : x.set ≠ s.whole := fun h => by have := (whole_iff hx).1 h; unfold left at hk; omega
    show ((s.fol x).flatMap fun y => (s.pths k y.st).map (y.act :: ·)).find? _ = _
    rw [find_flat, find_some_of (fun y => decide (y.cost + s.best y.st = s.best x)) _ (fun y => y.act :: s.greedy k y.st)]
    · rw [greedy_succ]
      have hm := best_min (s := s) x
      rw [if_neg hne] at hm
      rcases minL_hit maxT ((s.fol x).map fun y => y.cost + s.best y.st) with h | h
      · omega
      · obtain ⟨y, hy, he⟩ := List.mem_map.1 h
        cases hf : (s.fol x).find? (fun y => decide (y.cost + s.best y.st = s.best x)) with
        | none => exact absurd (List.find?_eq_none.1 hf y hy) (by simp [he, ← hm])
        | some z => rfl
    · intro y hy hp
      have hl := fol_left hy
      have hby := best_pths hok k y.st (fol_set hx hy) (by omega)
      have hle : s.best x ≤ y.cost + s.best y.st := by rw [best_min x]; exact minL_mem_le (List.mem_map_of_mem hy)
      obtain ⟨c, h1, h2, rfl⟩ := fol_mem hy
      rw [List.find?_map, Option.map_eq_none_iff, List.find?_eq_none]
      intro p hp2
      have : s.best (s.nx x c).st ≤ s.pc (s.nx x c).st.last p := by rw [hby]; exact minL_mem_le (List.mem_map_of_mem hp2)
      have hp3 := of_decide_eq_false hp
      have e : s.pc x.last ((s.nx x c).act :: p) = (s.nx x c).cost + s.pc (s.nx x c).st.last p := rfl
      simp only [Function.comp, decide_eq_true_eq, e]
      omega
    · intro y hy hp
      have hl := fol_left hy
      have hp3 := of_decide_eq_true hp
      obtain ⟨c, h1, h2, rfl⟩ := fol_mem hy
      have hc := hok.chC x.last c
      have hcc : (s.nx x c).cost = s.chC x.last c := rfl
      have ih := greedy_spec hok k (s.nx x c).st (fol_set hx hy) (by omega) (by omega)
      rw [List.find?_map]
      have e : ((fun p => decide (s.pc x.last p = s.best x)) ∘ fun p => (s.nx x c).act :: p) = fun p => decide (s.pc (s.nx x c).st.last p = s.best (s.nx x c).st) := by
        funext p
        have e : s.pc x.last ((s.nx x c).act :: p) = (s.nx x c).cost + s.pc (s.nx x c).st.last p := rfl
        simp only [Function.comp, e]
        congr 1
        rw [eq_iff_iff]
        omega
      rw [e, ih]; rfl
/-- may an act come first? -/
def first (s : Sh) (a : Nat) : Bool := decide (s.why a (-1) (-1) 0 = 0)
def firsts (s : Sh) : List Nat := (List.range s.acts.length).filter s.first
def one (a : Nat) : St := ⟨2 ^ a, a, a⟩
theorem left_one {a : Nat} (h : a < s.acts.length) : s.left (one a) + 1 = s.acts.length := by
  have := left_or (n := s.acts.length) (set := 0) h (by simp)
  rw [left_empty] at this
  simpa [left, one] using this
/-- all programmes, in their order -/
def progs (s : Sh) : List (List Nat) := s.firsts.flatMap fun a => (s.pths (s.acts.length - 1) (one a)).map (a :: ·)
/-- the least cost -/
def least (s : Sh) : Int := minL maxT (s.firsts.map fun a => s.best (one a))
/-- the best first act -/
def head (s : Sh) : Option Nat := s.firsts.find? (fun a => decide (s.best (one a) = s.least))
def solve (s : Sh) : Option (List Nat) := if s.least < maxT then s.head.map fun a => a :: s.greedy (s.acts.length - 1) (one a) else none
theorem firsts_lt {a : Nat} (h : a ∈ s.firsts) : a < s.acts.length := by simpa using (List.mem_filter.1 h).1
theorem one_lt {a : Nat} (h : a < s.acts.length) : (one a).set < 2 ^ s.acts.length := Nat.pow_lt_pow_right (by omega) h
theorem least_progs (hok : s.Ok) : s.least = minL maxT (s.progs.map s.cost) := by
  unfold least progs
  rw [List.map_flatMap]
  refine minL_flat maxT s.firsts _ _ (fun a ha m hm => ?_) maxT (Int.le_refl _)
  have hl := firsts_lt ha
  have h1 := left_one hl
  rw [best_pths hok (s.acts.length - 1) (one a) (one_lt hl) (by omega)]
  have := min_add (a := m) (c := 0) (m := maxT) ((s.pths (s.acts.length - 1) (one a)).map (s.pc (one a).last)) (by omega)
  rw [Int.zero_add] at this
  rw [this, List.map_map, List.map_map]
  congr 1
  refine List.map_congr_left fun p _ => ?_
  show 0 + s.pc a p = s.pc a p
  omega
theorem pc_bd (hok : s.Ok) : ∀ (p : List Nat) (a : Nat), 0 ≤ s.pc a p ∧ s.pc a p ≤ p.length * 1960
  | [], a => by simp [pc]
  | b :: r, a => by
    have h1 := hok.chC a b
    have h2 := pc_bd hok r b
    simp only [pc, List.length_cons]
    omega
theorem pths_len : ∀ (k : Nat) (x : St), ∀ p ∈ s.pths k x, p.length = k
  | 0, x, p, h => by simp [pths] at h; simp [h]
  | k + 1, x, p, h => by
    simp only [pths, List.mem_flatMap, List.mem_map] at h
    obtain ⟨y, hy, q, hq, rfl⟩ := h
    simp [pths_len k y.st q hq]
theorem progs_len {p : List Nat} (hok : s.Ok) (h : p ∈ s.progs) : p.length = s.acts.length := by
  simp only [progs, List.mem_flatMap, List.mem_map] at h
  obtain ⟨a, ha, q, hq, rfl⟩ := h
  have := hok.n1
  simp [pths_len _ _ q hq]
  omega
theorem cost_bd (hok : s.Ok) (p : List Nat) (h : p.length ≤ 12) : 0 ≤ s.cost p ∧ s.cost p < maxT := by
  cases p with
  | nil => show 0 ≤ (0 : Int) ∧ (0 : Int) < 1000000; omega
  | cons a r =>
    have := pc_bd hok r a
    rw [List.length_cons] at h
    show 0 ≤ s.pc a r ∧ s.pc a r < 1000000
    omega
/-- **The greedy way is the first of the least.** -/
theorem solve_spec (hok : s.Ok) : s.solve = s.progs.foldl (pick s.cost) none := by
  have hlt : ∀ p ∈ s.progs, s.cost p < maxT := fun p hp => (cost_bd hok p (by rw [progs_len hok hp]; have := hok.n8; omega)).2
  rw [pick_none s.cost maxT s.progs hlt, ← least_progs hok]
  unfold solve
  by_cases hm : s.least < maxT
  · rw [if_pos hm]
    unfold progs head
    rw [find_flat, find_some_of (fun a => decide (s.best (one a) = s.least)) _ (fun a => a :: s.greedy (s.acts.length - 1) (one a))]
    · intro a ha hp
      have hl := firsts_lt ha
      have h1 := left_one hl
      have hby := best_pths hok (s.acts.length - 1) (one a) (one_lt hl) (by omega)
      have hle : s.least ≤ s.best (one a) := minL_mem_le (List.mem_map_of_mem ha)
      rw [List.find?_map, Option.map_eq_none_iff, List.find?_eq_none]
      intro p hp2
      have : s.best (one a) ≤ s.pc a p := by rw [hby]; exact minL_mem_le (List.mem_map_of_mem hp2)
      have hp3 := of_decide_eq_false hp
      have e : s.cost (a :: p) = s.pc a p := rfl
      simp only [Function.comp, decide_eq_true_eq, e]
      omega
    · intro a ha hp
      have hl := firsts_lt ha
      have h1 := left_one hl
      have hp3 := of_decide_eq_true hp
      rw [List.find?_map]
      have e : ((fun p => decide (s.cost p = s.least)) ∘ fun p => a :: p) = fun p => decide (s.pc (one a).last p = s.best (one a)) := by
        funext p
        show decide (s.pc a p = s.least) = decide (s.pc a p = s.best (one a))
        rw [hp3]
      rw [e, greedy_spec hok _ _ (one_lt hl) (by omega) (by omega)]; rfl
  · rw [if_neg hm]
    symm
    rw [List.find?_eq_none]
    intro p hp
    have := hlt p hp
    simp
    omega
theorem solve_none (hok : s.Ok) : s.solve = none ↔ s.progs = [] := by
  rw [solve_spec hok]
  cases hp : s.progs with
  | nil => simp
  | cons p l =>
    rw [List.foldl_cons, show pick s.cost none p = some p from rfl, pick_some]
    simp only [reduceCtorEq, iff_false]
    intro h
    rw [List.find?_eq_none] at h
    rcases minL_hit (s.cost p) (l.map s.cost) with h1 | h1
    · exact h p (by simp) (by simp [h1])
    · obtain ⟨q, hq, e⟩ := List.mem_map.1 h1
      exact h q (by simp [hq]) (by simp [e])
theorem solve_some (hok : s.Ok) {p : List Nat} (h : s.solve = some p) : p ∈ s.progs ∧ s.cost p = s.least ∧ s.least < maxT := by
  have hlt : ∀ p ∈ s.progs, s.cost p < maxT := fun p hp => (cost_bd hok p (by rw [progs_len hok hp]; have := hok.n8; omega)).2
  rw [solve_spec hok, pick_none s.cost maxT s.progs hlt, ← least_progs hok] at h
  have h1 := List.mem_of_find?_eq_some h
  have h2 := List.find?_some h
  exact ⟨h1, by simpa using h2, by have := hlt p h1; have : s.cost p = s.least := by simpa using h2
                                   omega⟩
theorem least_le (hok : s.Ok) {p : List Nat} (h : p ∈ s.progs) : s.least ≤ s.cost p := by
  rw [least_progs hok]; exact minL_mem_le (List.mem_map_of_mem h)
end Sh
end Go.Pg

/- Orders without a fault are the programmes; a search through all of them; tables and their bounds. -/
import Derived.Test.YtcnidhcdkbfpcaaPrgQ
namespace Go.Pg
open Go.Pl
namespace Sh
variable {s : Sh}
def goes (s : Sh) : St → List Nat → Bool
  | _, [] => true
  | x, c :: r => decide (c < s.acts.length) && s.may x c && goes s (to x c) r
theorem pths_iff : ∀ (k : Nat) (x : St) (p : List Nat), p ∈ s.pths k x ↔ p.length = k ∧ s.goes x p = true
  | 0, x, p => by
    simp only [pths, List.mem_singleton]
    constructor
    · rintro rfl; exact ⟨rfl, rfl⟩
    · rintro ⟨h, _⟩; exact List.length_eq_zero_iff.1 h
  | k + 1, x, p => by
    simp only [pths, List.mem_flatMap, List.mem_map]
    constructor
    · rintro ⟨y, hy, q, hq, rfl⟩
      obtain ⟨h1, h2⟩ := (pths_iff k _ q).1 hq
      obtain ⟨c, h3, h4, rfl⟩ := fol_mem hy
      refine ⟨by simp [h1], ?_⟩
      show (decide (c < s.acts.length) && s.may x c && s.goes (to x c) q) = true
      have h5 : s.goes (to x c) q = true := h2
      simp [h3, h4, h5]
    · rintro ⟨h1, h2⟩
      cases p with
      | nil => simp at h1
      | cons c r =>
        simp only [goes, Bool.and_eq_true, decide_eq_true_eq] at h2
        refine ⟨s.nx x c, ?_, r, (pths_iff k _ r).2 ⟨by simpa using h1, h2.2⟩, rfl⟩
        unfold fol
        exact List.mem_map_of_mem (List.mem_filter.2 ⟨by simpa using h2.1.1, h2.1.2⟩)
/-- the state has its last act -/
def Good (x : St) : Prop := x.set.testBit x.last = true
theorem good_to (x : St) (c : Nat) : Good (to x c) := by unfold Good to; rw [bit_or]; simp
theorem good_one (a : Nat) : Good (one a) := by unfold Good one; rw [Nat.testBit_two_pow]; simp
theorem secI_to {x : St} {c : Nat} (hx : Good x) (hc : x.set.testBit c = false) : secI (to x c) = x.last := by
  unfold secI to
  have : x.last ≠ c := fun e => by subst e; unfold Good at hx; rw [hx] at hc; cases hc
  simp [this]
theorem fault_goes : ∀ (r : List Nat) (x : St) (i : Nat), Good x → (∀ c ∈ r, c < s.acts.length) → r.Nodup → (∀ c ∈ r, x.set.testBit c = false) → ((s.faultL r i x.last (secI x) x.set).2 = 0 ↔ s.goes x r = true)
  | [], x, i, _, _, _, _ => by simp [faultL, goes]
  | c :: r, x, i, hx, h1, h2, h3 => by
    have hb := h3 c (by simp)
    have hm : s.may x c = decide (s.why c x.last (secI x) x.set = 0) := by unfold may; rw [hb]; rfl
    rw [List.nodup_cons] at h2
    unfold faultL goes
    rw [hm, show decide (c < s.acts.length) = true by simpa using h1 c (by simp), Bool.true_and]
    by_cases hw : s.why c x.last (secI x) x.set = 0
    · rw [if_pos hw]
      have ih := fault_goes r (to x c) (i + 1) (good_to x c) (fun d hd => h1 d (by simp [hd])) h2.2 (fun d hd => by
        unfold to; rw [bit_or, h3 d (by simp [hd])]
        have : c ≠ d := fun e => h2.1 (e ▸ hd)
        simpa using this)
      rw [secI_to hx hb] at ih
      have e1 : (to x c).set = x.set ||| 2 ^ c := rfl
      have e2 : (to x c).last = c := rfl
      rw [e1, e2] at ih
      rw [ih, hw]; simp
    · rw [if_neg hw]
      simp [hw]
/-- is a list an order? -/
def isOrd (s : Sh) (l : List Nat) : Bool := decide (l.length = s.acts.length ∧ (∀ c ∈ l, c < s.acts.length) ∧ l.Nodup)
theorem goes_ok : ∀ (r : List Nat) (x : St), s.goes x r = true → (∀ c ∈ r, c < s.acts.length) ∧ r.Nodup ∧ ∀ c ∈ r, x.set.testBit c = false
  | [], _, _ => by simp
  | c :: r, x, h => by
    simp only [goes, Bool.and_eq_true, decide_eq_true_eq] at h
    obtain ⟨⟨h1, h2⟩, h3⟩ := h
    obtain ⟨i1, i2, i3⟩ := goes_ok r _ h3
    unfold may at h2
    rw [Bool.and_eq_true] at h2
    have hb : x.set.testBit c = false := by simpa using h2.1
    refine ⟨fun d hd => ?_, ?_, fun d hd => ?_⟩
    · rcases List.mem_cons.1 hd with rfl | hd
      · exact h1
      · exact i1 d hd
    · rw [List.nodup_cons]
      refine ⟨fun hc => ?_, i2⟩
      have := i3 c hc
      unfold to at this
      rw [bit_or] at this
      simp at this
    · rcases List.mem_cons.1 hd with rfl | hd
      · exact hb
      · have := i3 d hd
        unfold to at this
        rw [bit_or, Bool.or_eq_false_iff] at this
        exact this.1
theorem fault_cons (a : Nat) (r : List Nat) : s.fault (a :: r) = if s.why a (-1) (-1) 0 = 0 then s.faultL r 1 a (-1) (2 ^ a) else (0, s.why a (-1) (-1) 0) := by
  show (if s.why a (-1) (-1) 0 = 0 then s.faultL r (0 + 1) a (-1) (0 ||| 2 ^ a) else (((0 : Nat) : Int), s.why a (-1) (-1) 0)) = _
  rw [Nat.zero_or]
  rfl
theorem progs_iff (hok : s.Ok) {p : List Nat} : p ∈ s.progs ↔ s.isOrd p = true ∧ (s.fault p).2 = 0 := by
  have hn := hok.n1
  unfold progs isOrd
  simp only [List.mem_flatMap, List.mem_map, decide_eq_true_eq]
  have key : ∀ a r, a < s.acts.length → (∀ c ∈ r, c < s.acts.length) → (a :: r).Nodup → ((s.faultL r 1 a (-1) (2 ^ a)).2 = 0 ↔ s.goes (one a) r = true) := fun a r ha hr hnd => by
    rw [List.nodup_cons] at hnd
    have h := fault_goes (s := s) r (one a) 1 (good_one a) hr hnd.2 (fun c hc => by
      unfold one; rw [Nat.testBit_two_pow]
      have : a ≠ c := fun e => hnd.1 (e ▸ hc)
      simpa using this)
    have e : secI (one a) = -1 := by simp [secI, one]
    rw [e] at h
    exact h
  constructor
  · rintro ⟨a, ha, q, hq, rfl⟩
    obtain ⟨h1, h2⟩ := (pths_iff _ _ q).1 hq
    obtain ⟨i1, i2, i3⟩ := goes_ok q _ h2
    have hl := firsts_lt ha
    have hnd : (a :: q).Nodup := by
      rw [List.nodup_cons]
      refine ⟨fun hc => ?_, i2⟩
      have := i3 a hc
      unfold one at this
      rw [Nat.testBit_two_pow] at this
      simp at this
    refine ⟨⟨by simp [h1]; omega, fun c hc => ?_, hnd⟩, ?_⟩
    · rcases List.mem_cons.1 hc with rfl | hc
      · exact hl
      · exact i1 c hc
    · have hf := (List.mem_filter.1 ha).2
      unfold first at hf
      rw [fault_cons, if_pos (of_decide_eq_true hf)]
      exact (key a q hl i1 hnd).2 h2
  · rintro ⟨⟨h1, h2, h3⟩, h4⟩
    cases p with
    | nil => simp at h1; omega
    | cons a r =>
      rw [fault_cons] at h4
      have hl := h2 a (by simp)
      split at h4
      · rename_i hw
        refine ⟨a, List.mem_filter.2 ⟨by simpa using hl, by unfold first; simp [hw]⟩, r, (pths_iff _ _ r).2 ⟨by simp at h1; omega, (key a r hl (fun c hc => h2 c (by simp [hc])) h3).1 h4⟩, rfl⟩
      · rename_i hw
        exact absurd h4 hw

/- the search -/
def lastI (now : List Nat) : Int := match now.getLast? with | none => -1 | some a => a
def secL (now : List Nat) : Int := lastI now.dropLast
def setOf (now : List Nat) : Nat := now.foldl (fun t c => t ||| 2 ^ c) 0
theorem setOf_snoc (l : List Nat) (c : Nat) : setOf (l ++ [c]) = setOf l ||| 2 ^ c := by simp [setOf]
theorem setOf_bit (l : List Nat) (i : Nat) : (setOf l).testBit i = l.contains i := by
  suffices h : ∀ (l : List Nat) (t : Nat), (l.foldl (fun t c => t ||| 2 ^ c) t).testBit i = (t.testBit i || l.contains i) by
    have := h l 0; simpa [setOf] using this
  intro l
  induction l with
  | nil => intro t; simp
  | cons c l ih =>
    intro t
    rw [List.foldl_cons, ih, bit_or, List.contains_cons, Bool.or_assoc]
    congr 1
    by_cases h : c = i
    · subst h; simp
    · have h2 : i ≠ c := Ne.symm h
      simp [h, h2]
theorem lastI_snoc (l : List Nat) (c : Nat) : lastI (l ++ [c]) = c := by simp [lastI]
theorem secL_snoc (l : List Nat) (c : Nat) : secL (l ++ [c]) = lastI l := by simp [secL]
def can (s : Sh) (now : List Nat) (c : Nat) : Bool := !now.contains c && decide (s.why c (lastI now) (secL now) (setOf now) = 0)
def ext (s : Sh) : Nat → List Nat → List (List Nat)
  | 0, now => [now]
  | k + 1, now => ((List.range s.acts.length).filter (s.can now)).flatMap fun c => ext s k (now ++ [c])
structure Fits (now : List Nat) (x : St) : Prop where
  last : lastI now = x.last
  sec : secL now = secI x
  set : setOf now = x.set
  good : Good x
theorem can_may {now : List Nat} {x : St} (h : Fits now x) (c : Nat) : s.can now c = s.may x c := by
  unfold can may
  rw [h.last, h.sec, h.set, ← setOf_bit, h.set]
theorem fits_to {now : List Nat} {x : St} (h : Fits now x) {c : Nat} (hc : s.may x c = true) : Fits (now ++ [c]) (to x c) := by
  unfold may at hc
  rw [Bool.and_eq_true] at hc
  have hb : x.set.testBit c = false := by simpa using hc.1
  refine ⟨by rw [lastI_snoc]; rfl, by rw [secL_snoc, h.last, secI_to h.good hb], by rw [setOf_snoc, h.set]; rfl, good_to x c⟩
theorem flat_congr {α β : Type} {f g : α → List β} : ∀ {l : List α}, (∀ x ∈ l, f x = g x) → l.flatMap f = l.flatMap g
  | [], _ => rfl
  | x :: l, h => by rw [List.flatMap_cons, List.flatMap_cons, h x (by simp), flat_congr (l := l) (fun y hy => h y (by simp [hy]))]
theorem ext_pths : ∀ (k : Nat) (now : List Nat) (x : St), Fits now x → s.ext k now = (s.pths k x).map (now ++ ·)
  | 0, now, x, _ => by simp [ext, pths]
  | k + 1, now, x, h => by
    unfold ext pths fol
    rw [List.map_flatMap, List.flatMap_map]
    have e : (List.range s.acts.length).filter (s.can now) = (List.range s.acts.length).filter (s.may x) := by
      congr 1; funext c; exact can_may h c
    rw [e]
    refine flat_congr fun c hc => ?_
    have hm := (List.mem_filter.1 hc).2
    rw [ext_pths k _ _ (fits_to h hm), List.map_map]
    refine List.map_congr_left fun p _ => ?_
    simp [nx]
theorem ext_progs (hok : s.Ok) : s.ext s.acts.length [] = s.progs := by
  have hn := hok.n1
  obtain ⟨m, hm⟩ : ∃ m, s.acts.length = m + 1 := ⟨s.acts.length - 1, by omega⟩
  unfold progs
  rw [hm, show s.ext (m + 1) [] = ((List.range s.acts.length).filter (s.can [])).flatMap fun c => s.ext m ([] ++ [c]) from rfl]
  have e : (List.range s.acts.length).filter (s.can []) = s.firsts := by
    unfold firsts
    congr 1
  rw [e]
  refine flat_congr fun c _ => ?_
  rw [show ([] : List Nat) ++ [c] = [c] from rfl, ext_pths m [c] (one c) ⟨rfl, by simp [secL, lastI, secI, one], by simp [setOf, one], good_one c⟩]
  rfl
/-- what the search finds -/
theorem search_spec (hok : s.Ok) : (s.ext s.acts.length []).foldl (pick s.cost) none = s.solve := by rw [ext_progs hok, solve_spec hok]

/- tables -/
def real (x : St) : Bool := x.set.testBit x.last && x.set.testBit x.sec && (decide (x.set = 2 ^ x.last) == decide (x.last = x.sec))
def atT (s : Sh) (T : List (List Int)) (x : St) : Int := (T.getD x.set []).getD (x.last * s.acts.length + x.sec) 0
def shapeB (s : Sh) (T : List (List Int)) : Bool := decide (T.length = s.whole + 1) && T.all fun r => decide (r.length = s.acts.length * s.acts.length) && r.all fun k => btw k 0 maxT
/-- is a table right at a state? -/
def cellB (s : Sh) (T : List (List Int)) (x : St) : Bool := !real x || (!(decide (x.set = s.whole) && decide (s.atT T x ≠ 0)) && !(s.fol x).any fun y => decide (s.atT T x > y.cost + s.atT T y.st))
def cellsB (s : Sh) (T : List (List Int)) : Bool := (List.range (s.whole + 1)).all fun t => (List.range s.acts.length).all fun a => (List.range s.acts.length).all fun b => s.cellB T ⟨t, a, b⟩
def rightT (s : Sh) (T : List (List Int)) : Bool := s.shapeB T && s.cellsB T
def bound (s : Sh) (T : List (List Int)) : Int := minL maxT (s.firsts.map fun a => s.atT T (one a))
theorem real_one (a : Nat) : real (one a) = true := by simp [real, one]
theorem real_to {x : St} {c : Nat} (hx : Good x) (hc : x.set.testBit c = false) : real (to x c) = true := by
  unfold real to
  simp only
  unfold Good at hx
  have hne : c ≠ x.last := fun e => by subst e; rw [hx] at hc; cases hc
  rw [bit_or, bit_or, hx]
  have h2 : (x.set ||| 2 ^ c) ≠ 2 ^ c := fun e => by
    have := congrArg (fun t => t.testBit x.last) e
    simp only [bit_or, hx, Bool.true_or, Nat.testBit_two_pow] at this
    exact hne (of_decide_eq_true this.symm)
  simp [hne, h2]
theorem real_good {x : St} (h : real x = true) : Good x := by
  unfold real at h
  rw [Bool.and_eq_true, Bool.and_eq_true] at h
  exact h.1.1
theorem cells_at {T : List (List Int)} (h : s.cellsB T = true) {x : St} (h1 : x.set < s.whole + 1) (h2 : x.last < s.acts.length) (h3 : x.sec < s.acts.length) (hr : real x = true) :
    (x.set = s.whole → s.atT T x = 0) ∧ ∀ y ∈ s.fol x, s.atT T x ≤ y.cost + s.atT T y.st := by
  unfold cellsB at h
  rw [List.all_eq_true] at h
  have a1 := h x.set (by simpa using h1)
  rw [List.all_eq_true] at a1
  have a2 := a1 x.last (by simpa using h2)
  rw [List.all_eq_true] at a2
  have a3 := a2 x.sec (by simpa using h3)
  have e : (⟨x.set, x.last, x.sec⟩ : St) = x := rfl
  rw [e] at a3
  unfold cellB at a3
  rw [hr] at a3
  simp only [Bool.not_true, Bool.false_or, Bool.and_eq_true, Bool.not_eq_true', Bool.and_eq_false_iff, decide_eq_false_iff_not, List.any_eq_false, decide_eq_true_eq] at a3
  refine ⟨fun hw => ?_, fun y hy => ?_⟩
  · rcases a3.1 with h | h
    · exact absurd hw h
    · exact Decidable.of_not_not h
  · have := a3.2 y hy; omega
theorem at_le {T : List (List Int)} (h : s.cellsB T = true) : ∀ (p : List Nat) (x : St), real x = true → x.set < 2 ^ s.acts.length → x.last < s.acts.length → x.sec < s.acts.length → s.left x = p.length → s.goes x p = true → s.atT T x ≤ s.pc x.last p
  | [], x, hr, hs, h2, h3, hl, _ => by
    have hw := (whole_iff hs).2 hl
    have := (cells_at h (by rw [hw]; omega) h2 h3 hr).1 hw
    unfold pc
    omega
  | c :: r, x, hr, hs, h2, h3, hl, hg => by
    simp only [goes, Bool.and_eq_true, decide_eq_true_eq] at hg
    obtain ⟨⟨g1, g2⟩, g3⟩ := hg
    have hb : x.set.testBit c = false := by
      unfold may at g2
      rw [Bool.and_eq_true] at g2
      simpa using g2.1
    have hlt := may_lt g1 g2
    simp at hl
    have ih := at_le h r (to x c) (real_to (real_good hr) hb) (or_lt hs g1) g1 h2 (by omega) g3
    have hx1 : x.set < s.whole + 1 := by unfold whole; omega
    have := (cells_at h hx1 h2 h3 hr).2 (s.nx x c) (by unfold fol; exact List.mem_map_of_mem (List.mem_filter.2 ⟨by simpa using g1, g2⟩))
    have e1 : (s.nx x c).cost = s.chC x.last c := rfl
    have e2 : (s.nx x c).st = to x c := rfl
    have e3 : (to x c).last = c := rfl
    rw [e1, e2] at this
    rw [e3] at ih
    unfold pc
    omega
/-- **No programme costs less than the bound of a right table.** -/
theorem bound_le {T : List (List Int)} (h : s.rightT T = true) {p : List Nat} (hp : p ∈ s.progs) : s.bound T ≤ s.cost p := by
  unfold rightT at h
  rw [Bool.and_eq_true] at h
  simp only [progs, List.mem_flatMap, List.mem_map] at hp
  obtain ⟨a, ha, q, hq, rfl⟩ := hp
  have hl := firsts_lt ha
  obtain ⟨h1, h2⟩ := (pths_iff _ _ q).1 hq
  have h3 := left_one hl
  have := at_le h.2 q (one a) (real_one a) (one_lt hl) hl hl (by omega) h2
  have h4 : s.bound T ≤ s.atT T (one a) := minL_mem_le (List.mem_map_of_mem ha)
  have e : s.cost (a :: q) = s.pc (one a).last q := rfl
  omega
/-- the table of the best -/
def cellV (s : Sh) (x : St) : Int := if real x = true then s.best x else 0
def rowV (s : Sh) (t : Nat) : List Int := (List.range (s.acts.length * s.acts.length)).map fun i => s.cellV ⟨t, i / s.acts.length, i % s.acts.length⟩
def tabV (s : Sh) : List (List Int) := (List.range (s.whole + 1)).map s.rowV
theorem atT_tab {x : St} (h1 : x.set < s.whole + 1) (h2 : x.last < s.acts.length) (h3 : x.sec < s.acts.length) : s.atT s.tabV x = s.cellV x := by
  unfold atT
  have e0 : s.tabV.getD x.set [] = s.rowV x.set := by unfold tabV; simp [h1]
  rw [e0]
  have hi : x.last * s.acts.length + x.sec < s.acts.length * s.acts.length := by
    have := Nat.mul_le_mul_right s.acts.length (show x.last + 1 ≤ s.acts.length from h2)
    rw [Nat.add_mul, Nat.one_mul] at this
    omega
  unfold rowV
  rw [List.getD_eq_getElem?_getD, List.getElem?_map, List.getElem?_range hi]
  simp only [Option.map_some, Option.getD_some]
  have hn : 0 < s.acts.length := by omega
  rw [Nat.mul_comm, Nat.mul_add_div hn, Nat.div_eq_of_lt h3, Nat.add_zero, Nat.mul_add_mod, Nat.mod_eq_of_lt h3]
theorem foldl_min_bd (l : List Nx) (f : Nx → Int) (m : Int) (hm : 0 ≤ m) (h : ∀ y ∈ l, 0 ≤ f y) : 0 ≤ l.foldl (fun n y => min n (f y)) m := by
  induction l generalizing m with
  | nil => exact hm
  | cons y l ih =>
    have := h y (by simp)
    exact ih (min m (f y)) (by omega) (fun z hz => h z (by simp [hz]))
theorem bst_bd (hok : s.Ok) : ∀ (k : Nat) (x : St), 0 ≤ s.bst k x ∧ s.bst k x ≤ maxT
  | 0, x => by unfold bst; split <;> decide
  | k + 1, x => by
    unfold bst
    constructor
    · refine foldl_min_bd _ (fun y => y.cost + s.bst k y.st) _ (by split <;> decide) (fun y hy => ?_)
      obtain ⟨c, _, _, rfl⟩ := fol_mem hy
      have h1 := hok.chC x.last c
      have h2 := bst_bd hok k (s.nx x c).st
      show 0 ≤ s.chC x.last c + _
      omega
    · rw [foldl_min _ (fun y => y.cost + s.bst k y.st)]
      refine Int.le_trans (minL_le _ _) (by split <;> decide)
theorem best_bd (hok : s.Ok) (x : St) : 0 ≤ s.best x ∧ s.best x ≤ maxT := bst_bd hok _ x
theorem cellV_bd (hok : s.Ok) (x : St) : 0 ≤ s.cellV x ∧ s.cellV x ≤ maxT := by
  unfold cellV
  split
  · exact best_bd hok x
  · decide
/-- **The table of the best is right**, and its bound is the least cost. -/
theorem tab_right (hok : s.Ok) : s.rightT s.tabV = true := by
  unfold rightT
  rw [Bool.and_eq_true]
  constructor
  · unfold shapeB
    rw [Bool.and_eq_true, List.all_eq_true]
    refine ⟨by simp [tabV], fun r hr => ?_⟩
    unfold tabV at hr
    obtain ⟨t, -, rfl⟩ := List.mem_map.1 hr
    rw [Bool.and_eq_true, List.all_eq_true]
    refine ⟨by simp [rowV], fun k hk => ?_⟩
    unfold rowV at hk
    obtain ⟨i, -, rfl⟩ := List.mem_map.1 hk
    exact btw_iff.2 (cellV_bd hok _)
  · unfold cellsB
    simp only [List.all_eq_true, List.mem_range]
    intro t ht a ha b hb
    unfold cellB
    cases hr : real ⟨t, a, b⟩
    · rfl
    · have ht2 : t < 2 ^ s.acts.length := by unfold whole at ht; have := Nat.two_pow_pos s.acts.length; omega
      rw [atT_tab (x := ⟨t, a, b⟩) ht ha hb]
      have hv : s.cellV ⟨t, a, b⟩ = s.best ⟨t, a, b⟩ := by unfold cellV; rw [if_pos hr]
      rw [hv]
      simp only [Bool.not_true, Bool.false_or, Bool.and_eq_true, Bool.not_eq_true', Bool.and_eq_false_iff, decide_eq_false_iff_not, List.any_eq_false, decide_eq_true_eq]
      constructor
      · by_cases hw : t = s.whole
        · right
          have := (whole_iff (s := s) ht2).1 hw
          rw [Decidable.not_not]
          unfold best left
          simp only
          rw [this]
          simp [bst, hw]
        · exact .inl hw
      · intro y hy hgt
        have hle : s.best ⟨t, a, b⟩ ≤ y.cost + s.best y.st := by rw [best_min ⟨t, a, b⟩]; exact minL_mem_le (List.mem_map_of_mem hy)
        have hys := fol_set (s := s) (x := ⟨t, a, b⟩) ht2 hy
        obtain ⟨c, h1, h2, rfl⟩ := fol_mem hy
        have hcb : t.testBit c = false := by
          unfold may at h2
          rw [Bool.and_eq_true] at h2
          simpa using h2.1
        have hy1 : (s.nx ⟨t, a, b⟩ c).st.set < s.whole + 1 := by unfold whole; omega
        rw [atT_tab hy1 h1 ha] at hgt
        have : s.cellV (s.nx ⟨t, a, b⟩ c).st = s.best (s.nx ⟨t, a, b⟩ c).st := by
          unfold cellV
          rw [if_pos (show real (s.nx ⟨t, a, b⟩ c).st = true from real_to (x := ⟨t, a, b⟩) (real_good hr) hcb)]
        omega
theorem tab_bound : s.bound s.tabV = s.least := by
  unfold bound least
  congr 1
  refine List.map_congr_left fun a ha => ?_
  have hl := firsts_lt ha
  have := one_lt (s := s) hl
  rw [atT_tab (by unfold whole; omega) hl hl]
  unfold cellV
  rw [if_pos (real_one a)]
end Sh
end Go.Pg

/- Shows as plain data: valid shows, changes, faults, costs, sheets. -/
import Derived.Test.YtcnidhcdkbfpcaaGround
namespace Go.Pg
open Go.Pl
structure Ac where
  min : Int
  ten : Int
  rigs : Nat
  casts : List Nat
  spare : Bool
  deriving Inhabited
structure Sh where
  acts : List Ac
  rest : List Int
  ins : List Int
  outs : List Int
  cover : Int
  dull : Int
  before : List (Int × Int)
  deriving Inhabited
def btw (n lo hi : Int) : Bool := decide (lo ≤ n ∧ n ≤ hi)
theorem btw_iff {n lo hi : Int} : btw n lo hi = true ↔ lo ≤ n ∧ n ≤ hi := by simp [btw]
/-- has a set only numbers below n? -/
def fitsB (s n : Nat) : Bool := decide (s / 2 ^ n = 0)
theorem fits_iff {s n : Nat} : fitsB s n = true ↔ s < 2 ^ n := by
  unfold fitsB
  rw [decide_eq_true_iff, Nat.div_eq_zero_iff]
  have : 0 < 2 ^ n := Nat.two_pow_pos n
  omega
theorem bit_lt {s n i : Nat} (h : s < 2 ^ n) (hb : s.testBit i = true) : i < n := by
  rcases Nat.lt_or_ge i n with h1 | h1
  · exact h1
  · rw [Nat.testBit_lt_two_pow (Nat.lt_of_lt_of_le h (Nat.pow_le_pow_right (by omega) h1))] at hb; cases hb
theorem fits_bits {s n : Nat} (hs : s < 65536) : fitsB s n = true ↔ ∀ i, i < 16 → n ≤ i → s.testBit i = false := by
  rw [fits_iff]
  constructor
  · intro h i _ hi
    exact Nat.testBit_lt_two_pow (Nat.lt_of_lt_of_le h (Nat.pow_le_pow_right (by omega) hi))
  · intro h
    refine Nat.lt_pow_two_of_testBit s fun i hi => ?_
    rcases Nat.lt_or_ge i 16 with h1 | h1
    · exact h i h1 hi
    · exact Nat.testBit_lt_two_pow (Nat.lt_of_lt_of_le hs (show 2 ^ 16 ≤ 2 ^ i from Nat.pow_le_pow_right (by omega) h1))
namespace Sh
def staged (s : Sh) (a : Ac) : Bool := btw a.min 1 60 && btw a.ten 0 100 && fitsB a.rigs s.ins.length && btw a.casts.length 1 4 && a.casts.all (fun c => fitsB c s.rest.length)
def pairB (s : Sh) (p : Int × Int) : Bool := btw p.1 0 (s.acts.length - 1) && btw p.2 0 (s.acts.length - 1) && decide (p.1 ≠ p.2)
def ok1 (s : Sh) : Bool := btw s.acts.length 1 8 && decide (s.rest.length ≤ 16) && s.rest.all (fun n => btw n 0 2) && decide (s.ins.length ≤ 10) && decide (s.outs.length = s.ins.length) && s.ins.all (fun n => btw n 0 30) && s.outs.all (fun n => btw n 0 30)
def ok2 (s : Sh) : Bool := btw s.cover 0 60 && btw s.dull 0 10 && decide (s.before.length ≤ 20)
def okB (s : Sh) : Bool := s.ok1 && s.ok2 && (s.acts.all s.staged && s.before.all s.pairB)
/-- What is known of a valid show. -/
structure Ok (s : Sh) : Prop where
  n1 : 1 ≤ s.acts.length
  n8 : s.acts.length ≤ 8
  r16 : s.rest.length ≤ 16
  rest : ∀ x ∈ s.rest, 0 ≤ x ∧ x ≤ 2
  i10 : s.ins.length ≤ 10
  oi : s.outs.length = s.ins.length
  ins : ∀ x ∈ s.ins, 0 ≤ x ∧ x ≤ 30
  outs : ∀ x ∈ s.outs, 0 ≤ x ∧ x ≤ 30
  cover : 0 ≤ s.cover ∧ s.cover ≤ 60
  dull : 0 ≤ s.dull ∧ s.dull ≤ 10
  b20 : s.before.length ≤ 20
  acts : ∀ a ∈ s.acts, s.staged a = true
  before : ∀ p ∈ s.before, s.pairB p = true
theorem ok_of {s : Sh} (h : s.okB = true) : s.Ok := by
  simp only [okB, ok1, ok2, Bool.and_eq_true, List.all_eq_true, decide_eq_true_eq, btw_iff] at h
  obtain ⟨⟨⟨⟨⟨⟨⟨⟨h1, h2⟩, h3⟩, h4⟩, h5⟩, h6⟩, h7⟩, ⟨h8, h9⟩, h10⟩, h11, h12⟩ := h
  exact ⟨by omega, by omega, h2, h3, h4, h5, h6, h7, h8, h9, h10, h11, h12⟩
theorem ok_iff {s : Sh} : s.okB = true ↔ s.Ok := by
  refine ⟨ok_of, fun h => ?_⟩
  simp only [okB, ok1, ok2, Bool.and_eq_true, List.all_eq_true, decide_eq_true_eq, btw_iff]
  have := h.n1
  have := h.n8
  exact ⟨⟨⟨⟨⟨⟨⟨⟨by omega, h.r16⟩, h.rest⟩, h.i10⟩, h.oi⟩, h.ins⟩, h.outs⟩, ⟨h.cover, h.dull⟩, h.b20⟩, h.acts, h.before⟩
structure AcOk (s : Sh) (a : Ac) : Prop where
  min : 1 ≤ a.min ∧ a.min ≤ 60
  ten : 0 ≤ a.ten ∧ a.ten ≤ 100
  rigs : a.rigs < 2 ^ s.ins.length
  c1 : 1 ≤ a.casts.length
  c4 : a.casts.length ≤ 4
  casts : ∀ c ∈ a.casts, c < 2 ^ s.rest.length
theorem staged_iff {s : Sh} {a : Ac} : s.staged a = true ↔ s.AcOk a := by
  simp only [staged, Bool.and_eq_true, List.all_eq_true, btw_iff, fits_iff]
  constructor
  · rintro ⟨⟨⟨⟨h1, h2⟩, h3⟩, h4⟩, h5⟩
    exact ⟨h1, h2, h3, by omega, by omega, h5⟩
  · intro h
    have := h.c1
    have := h.c4
    exact ⟨⟨⟨⟨h.min, h.ten⟩, h.rigs⟩, by omega⟩, h.casts⟩
def act (s : Sh) (i : Nat) : Ac := s.acts.getD i default
theorem act_eq {s : Sh} {i : Nat} (h : i < s.acts.length) : s.act i = s.acts[i] := by simp [act, h]
theorem Ok.act {s : Sh} (h : s.Ok) {i : Nat} (hi : i < s.acts.length) : s.AcOk (s.act i) := by
  rw [act_eq hi]; exact staged_iff.1 (h.acts _ (List.getElem_mem hi))
/-- the numbers of x that y has not -/
def less (x y : Nat) : List Nat := (List.range 16).filter fun i => x.testBit i && !y.testBit i
/-- the numbers of a set -/
def memb (x : Nat) : List Nat := (List.range 16).filter fun i => x.testBit i
/-- the minutes of a change -/
def chM (s : Sh) (a b : Nat) : Int := isum ((less (s.act b).rigs (s.act a).rigs).map fun k => s.ins.getD k 0) + isum ((less (s.act a).rigs (s.act b).rigs).map fun k => s.outs.getD k 0)
/-- the cost of a change -/
def chC (s : Sh) (a b : Nat) : Int := s.chM a b + s.dull * max 0 ((s.act a).ten - (s.act b).ten)
/-- the first cast -/
def cast (s : Sh) (i : Nat) : Nat := (s.act i).casts.getD 0 0
def tired (s : Sh) (a b : Nat) (bt : Int) : Bool := (List.range 16).any fun p => (s.cast a).testBit p && (s.cast b).testBit p && decide (bt < s.rest.getD p 0)
def early (s : Sh) (i set : Nat) : Bool := s.before.any fun p => decide (p.2 = (i : Int)) && !set.testBit p.1.toNat
/-- the first fault of an act in its place -/
def why (s : Sh) (i : Nat) (last sec : Int) (set : Nat) : Nat :=
  if (decide (0 ≤ last) && decide (s.cover < s.chM last.toNat i)) = true then 1
  else if (decide (0 ≤ last) && s.tired last.toNat i 0 || decide (0 ≤ sec) && s.tired sec.toNat i 1) = true then 2
  else if s.early i set = true then 3 else 0
def faultL (s : Sh) : List Nat → Nat → Int → Int → Nat → Int × Nat
  | [], _, _, _, _ => (0, 0)
  | a :: r, i, last, sec, set => if s.why a last sec set = 0 then faultL s r (i + 1) a last (set ||| 2 ^ a) else (i, s.why a last sec set)
def fault (s : Sh) (l : List Nat) : Int × Nat := s.faultL l 0 (-1) (-1) 0
/-- what the changes behind an act cost -/
def pc (s : Sh) : Nat → List Nat → Int
  | _, [] => 0
  | a, b :: r => s.chC a b + pc s b r
def cost (s : Sh) : List Nat → Int
  | [] => 0
  | a :: r => s.pc a r
/-- when the acts begin, and when the last one has ended -/
def sheetL (s : Sh) : Nat → Int → List Nat → List Int × Int
  | _, t, [] => ([], t)
  | a, t, b :: r => let u := sheetL s b (t + s.chM a b + (s.act b).min) r; ((t + s.chM a b) :: u.1, u.2)
def sheet (s : Sh) : List Nat → List Int × Int
  | [] => ([], 0)
  | a :: r => let u := s.sheetL a (s.act a).min r; (0 :: u.1, u.2)

/- bounds -/
theorem less_sub {x y n : Nat} (h : x < 2 ^ n) {i : Nat} (hi : i ∈ less x y) : i < n := by
  have h1 := (List.mem_filter.1 hi).2
  rw [Bool.and_eq_true] at h1
  exact bit_lt h h1.1
theorem less_len (x y : Nat) : (less x y).length ≤ 16 := by
  refine Nat.le_trans (List.length_filter_le _ _) (by simp)
theorem getD_bd {l : List Int} {lo hi : Int} (h : ∀ x ∈ l, lo ≤ x ∧ x ≤ hi) (h0 : lo ≤ 0 ∧ 0 ≤ hi) (k : Nat) : lo ≤ l.getD k 0 ∧ l.getD k 0 ≤ hi := by
  by_cases hk : k < l.length
  · simpa [hk] using h _ (List.getElem_mem hk)
  · simp [List.getElem?_eq_none (by omega : l.length ≤ k)]; exact h0
theorem Ok.chM {s : Sh} (h : s.Ok) (a b : Nat) : 0 ≤ s.chM a b ∧ s.chM a b ≤ 960 := by
  have h1 := isum_map_bd (fun k => s.ins.getD k 0) (less (s.act b).rigs (s.act a).rigs) 30 (fun k _ => getD_bd h.ins (by omega) k)
  have h2 := isum_map_bd (fun k => s.outs.getD k 0) (less (s.act a).rigs (s.act b).rigs) 30 (fun k _ => getD_bd h.outs (by omega) k)
  have := less_len (s.act b).rigs (s.act a).rigs
  have := less_len (s.act a).rigs (s.act b).rigs
  unfold Sh.chM
  omega
theorem Ok.ten {s : Sh} (h : s.Ok) (a : Nat) : 0 ≤ (s.act a).ten ∧ (s.act a).ten ≤ 100 := by
  by_cases ha : a < s.acts.length
  · exact (h.act ha).ten
  · have : s.act a = default := by simp [Sh.act, List.getElem?_eq_none (by omega : s.acts.length ≤ a)]
    rw [this]; decide
theorem Ok.chC {s : Sh} (h : s.Ok) (a b : Nat) : 0 ≤ s.chC a b ∧ s.chC a b ≤ 1960 := by
  have h1 := h.chM a b
  have h2 := h.ten a
  have h3 := h.ten b
  have h4 := mul_bd (a := s.dull) (b := max 0 ((s.act a).ten - (s.act b).ten)) h.dull.1 h.dull.2 (n := 100) (by omega) (by omega)
  unfold Sh.chC
  omega
end Sh
end Go.Pg

/- The yard as plain data: what the program's functions compute. -/
import Derived.Test.YtopfhinnamhoiaaPlain
namespace Go.Yd
open Go.Pl
structure Mkt where
  need : Int
  price : Int
  trip : Int
  opn : Bool
  deriving Inhabited
structure Rd where
  days : List Mkt
  keep : Int
structure Eng where
  most : Int
  idle : Int
  per : Int
  deriving Inhabited
structure Rng where
  lo : Int
  hi : Int
  deriving Inhabited
structure Nd where
  parent : Int
  load : Rng
  fuse : Int
  sag : Int
  deriving Inhabited
structure Gd where
  nodes : List Nd
  limit : Int
structure Yrd where
  boxes : List Int
  needs : List Int
  foes : List (Int × Int)
def Mkt.ok (m : Mkt) : Prop := (0 ≤ m.need ∧ m.need ≤ 10000) ∧ (0 ≤ m.price ∧ m.price ≤ 1000) ∧ (0 ≤ m.trip ∧ m.trip ≤ 100000)
def Rd.ok (r : Rd) : Prop := (1 ≤ r.days.length ∧ r.days.length ≤ 30) ∧ (1 ≤ r.keep ∧ r.keep ≤ 10) ∧ ∀ m ∈ r.days, m.ok
def mktB (m : Mkt) : Bool := decide (0 ≤ m.need ∧ m.need ≤ 10000) && (decide (0 ≤ m.price ∧ m.price ≤ 1000) && decide (0 ≤ m.trip ∧ m.trip ≤ 100000))
def Rd.okB (r : Rd) : Bool := decide ((1 : Int) ≤ r.days.length ∧ (r.days.length : Int) ≤ 30) && (decide (1 ≤ r.keep ∧ r.keep ≤ 10) && r.days.all mktB)
theorem Rd.okB_iff (r : Rd) : r.okB = true ↔ r.ok := by
  simp only [Rd.okB, Rd.ok, Mkt.ok, mktB, Bool.and_eq_true, decide_eq_true_eq, List.all_eq_true]
  constructor
  · rintro ⟨h1, h2, h3⟩; exact ⟨by omega, h2, h3⟩
  · rintro ⟨h1, h2, h3⟩; exact ⟨by omega, h2, h3⟩
/-- what is needed from day i on, before day j -/
def Rd.need (r : Rd) (i j : Nat) : Int := isum (((r.days.drop i).take (j - i)).map Mkt.need)
def Rd.day (r : Rd) (i : Nat) : Mkt := r.days.getD i default
def Rd.price (r : Rd) (i j : Nat) : Int := (r.day i).trip + (r.day i).price * r.need i j
def Rd.feeds (r : Rd) (i j : Nat) : Bool := r.need (min j (i + r.keep.toNat)) j == 0
theorem Rd.need_bd {r : Rd} (h : r.ok) (i j : Nat) : 0 ≤ r.need i j ∧ r.need i j ≤ 300000 := by
  have h1 := isum_map_bd Mkt.need ((r.days.drop i).take (j - i)) 10000 (fun x hx => (h.2.2 x (List.mem_of_mem_drop (List.mem_of_mem_take hx))).1)
  have h2 : ((r.days.drop i).take (j - i)).length ≤ 30 := by simp; have := h.1.2; omega
  unfold Rd.need
  omega
theorem Rd.day_ok {r : Rd} (h : r.ok) {i : Nat} (hi : i < r.days.length) : (r.day i).ok := by
  have h1 : r.day i = r.days[i] := by simp [Rd.day, hi]
  rw [h1]; exact h.2.2 _ (List.getElem_mem _)
theorem Rd.day_get {r : Rd} {i : Nat} (hi : i < r.days.length) : r.days[i] = r.day i := by
  simp [Rd.day, hi]
end Go.Yd

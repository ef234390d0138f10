/- Plain: the next permutation of a list, and all of a short one. -/
import Derived.Test.YtcnidhcdkbfpcaaGround
namespace Go.Proofs.Ytcnidhcdkbfpcaa
namespace Nxt
/-- the last place below i whose number is less than the one behind it -/
def piv (l : List Int) : Nat → Option Nat
  | 0 => none
  | i + 1 => if l.getD i 0 < l.getD (i + 1) 0 then some i else piv l i
/-- the last place up to k with a number greater than x -/
def gtr (l : List Int) (x : Int) : Nat → Nat
  | 0 => 0
  | k + 1 => if x < l.getD (k + 1) 0 then k + 1 else gtr l x k
def swp (l : List Int) (a b : Nat) : List Int := (l.set a (l.getD b 0)).set b (l.getD a 0)
/-- turned round from a to b -/
def rev (l : List Int) (a b : Nat) : Nat → List Int
  | 0 => l
  | f + 1 => if a < b then rev (swp l a b) (a + 1) (b - 1) f else l
def next (l : List Int) : Option (List Int) :=
  match piv l (l.length - 1) with
  | none => none
  | some i => let m := swp l i (gtr l (l.getD i 0) (l.length - 1)); some (rev m (i + 1) (l.length - 1) l.length)
def orb (l : List Int) : Nat → List (List Int)
  | 0 => [l]
  | f + 1 => l :: match next l with
    | none => []
    | some m => orb m f
def first (n : Nat) : List Int := (List.range n).map fun (i : Nat) => (i : Int)
def all (n : Nat) : List (List Int) := orb (first n) 119
def chain : List (List Int) → Bool
  | [] => false
  | [l] => (next l).isNone
  | l :: m :: t => (next l == some m) && chain (m :: t)
theorem chain_next : ∀ (L : List (List Int)), chain L = true → ∀ j (h : j < L.length), next L[j] = L[j + 1]?
  | [], h, j, hj => by simp at hj
  | [l], h, j, hj => by
    obtain rfl : j = 0 := by simp at hj; omega
    simpa [chain] using h
  | l :: m :: t, h, j, hj => by
    simp only [chain, Bool.and_eq_true, beq_iff_eq] at h
    cases j with
    | zero => simpa using h.1
    | succ j => simpa using chain_next (m :: t) h.2 j (by simpa using hj)
def full (n : Nat) (L : List (List Int)) : Nat → List Nat → Bool
  | 0, pre => L.contains (pre.map fun (i : Nat) => (i : Int))
  | k + 1, pre => (List.range n).all fun x => pre.contains x || full n L k (pre ++ [x])
theorem full_mem {n : Nat} {L : List (List Int)} : ∀ (k : Nat) (pre q : List Nat), full n L k pre = true → q.length = k → (∀ x ∈ q, x < n) → (pre ++ q).Nodup → ((pre ++ q).map fun (i : Nat) => (i : Int)) ∈ L
  | 0, pre, q, h, hq, _, _ => by
    obtain rfl : q = [] := List.length_eq_zero_iff.1 hq
    simpa [full] using h
  | k + 1, pre, [], h, hq, _, _ => by simp at hq
  | k + 1, pre, x :: q, h, hq, hx, hn => by
    simp only [full, List.all_eq_true, List.mem_range, Bool.or_eq_true] at h
    have hxn : x < n := hx x (by simp)
    have hnp : pre.contains x ≠ true := by
      intro hc
      rw [List.contains_iff_mem] at hc
      exact (List.nodup_append.1 hn).2.2 x hc x (by simp) rfl
    have h2 := (h x hxn).resolve_left hnp
    have := full_mem k (pre ++ [x]) q h2 (by simpa using hq) (fun y hy => hx y (by simp [hy])) (by simpa using hn)
    simpa using this
theorem all_chain (n : Nat) (h : n ≤ 5) (h1 : 1 ≤ n) : chain (all n) = true := by
  have : n = 1 ∨ n = 2 ∨ n = 3 ∨ n = 4 ∨ n = 5 := by omega
  rcases this with rfl | rfl | rfl | rfl | rfl <;> decide +kernel
theorem all_full (n : Nat) (h : n ≤ 5) (h1 : 1 ≤ n) : full n (all n) n [] = true := by
  have : n = 1 ∨ n = 2 ∨ n = 3 ∨ n = 4 ∨ n = 5 := by omega
  rcases this with rfl | rfl | rfl | rfl | rfl <;> decide +kernel
def lens (n : Nat) (L : List (List Int)) : Bool := L.all fun l => l.length == n && l.all fun x => decide (0 ≤ x ∧ x < (n : Int))
theorem all_lens (n : Nat) (h : n ≤ 5) (h1 : 1 ≤ n) : lens n (all n) = true := by
  have : n = 1 ∨ n = 2 ∨ n = 3 ∨ n = 4 ∨ n = 5 := by omega
  rcases this with rfl | rfl | rfl | rfl | rfl <;> decide +kernel
theorem all_next {n : Nat} (h : n ≤ 5) (h1 : 1 ≤ n) {j : Nat} (hj : j < (all n).length) : next (all n)[j] = (all n)[j + 1]? := chain_next _ (all_chain n h h1) j hj
theorem all_mem {n : Nat} (h : n ≤ 5) (h1 : 1 ≤ n) {q : List Nat} (hq : q.length = n) (hx : ∀ x ∈ q, x < n) (hn : q.Nodup) : (q.map fun (i : Nat) => (i : Int)) ∈ all n := by
  have := full_mem n [] q (all_full n h h1) hq hx (by simpa using hn)
  simpa using this
theorem all_at {n : Nat} (h : n ≤ 5) (h1 : 1 ≤ n) {l : List Int} (hl : l ∈ all n) : l.length = n ∧ ∀ x ∈ l, 0 ≤ x ∧ x < (n : Int) := by
  have := all_lens n h h1
  unfold lens at this
  rw [List.all_eq_true] at this
  have := this l hl
  simp only [Bool.and_eq_true, beq_iff_eq, List.all_eq_true, decide_eq_true_eq] at this
  exact this
theorem all_zero {n : Nat} : ∃ t, all n = first n :: t := ⟨_, rfl⟩
end Nxt
end Go.Proofs.Ytcnidhcdkbfpcaa

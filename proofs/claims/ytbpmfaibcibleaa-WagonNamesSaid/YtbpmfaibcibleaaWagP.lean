/- Plain: lorries, things, packings; what is valid; the search for the first packing. -/
import Derived.Test.YtbpmfaibcibleaaSortP
namespace Go.Wg
open Go.Pl
structure Th where
  long : Int
  high : Int
  mass : Int
  need : Int
structure Lo where
  lanes : List Int
  height : Int
  carries : Int
  empty : Int
  rear : Int
  axle : Int
  deck : Int
structure Br where
  limit : Int
  clear : Int
structure Ru where
  drive : Int
  stint : Int
  brk : Int
  rest : Int
def btw (n lo hi : Int) : Bool := decide (lo ≤ n ∧ n ≤ hi)
theorem btw_iff {n lo hi : Int} : btw n lo hi = true ↔ lo ≤ n ∧ n ≤ hi := by simp [btw]
def Th.okB (t : Th) : Bool := btw t.long 1 2000 && btw t.high 1 500 && btw t.mass 0 100000 && btw t.need 0 1000
structure Th.Ok (t : Th) : Prop where
  long : 1 ≤ t.long ∧ t.long ≤ 2000
  high : 1 ≤ t.high ∧ t.high ≤ 500
  mass : 0 ≤ t.mass ∧ t.mass ≤ 100000
  need : 0 ≤ t.need ∧ t.need ≤ 1000
theorem Th.ok_iff {t : Th} : t.okB = true ↔ t.Ok := by
  simp only [Th.okB, Bool.and_eq_true, btw_iff]
  exact ⟨fun ⟨⟨⟨a, b⟩, c⟩, d⟩ => ⟨a, b, c, d⟩, fun ⟨a, b, c, d⟩ => ⟨⟨⟨a, b⟩, c⟩, d⟩⟩
def Lo.okB (l : Lo) : Bool := btw l.lanes.length 1 6 && l.lanes.all (fun n => btw n 1 2000) && btw l.height 1 500 && btw l.carries 0 100000 && btw l.empty 0 100000 && btw l.rear 1 4000 && btw l.axle 0 100000 && btw l.deck 0 100
structure Lo.Ok (l : Lo) : Prop where
  many : 1 ≤ l.lanes.length ∧ l.lanes.length ≤ 6
  lanes : ∀ n ∈ l.lanes, 1 ≤ n ∧ n ≤ 2000
  height : 1 ≤ l.height ∧ l.height ≤ 500
  carries : 0 ≤ l.carries ∧ l.carries ≤ 100000
  empty : 0 ≤ l.empty ∧ l.empty ≤ 100000
  rear : 1 ≤ l.rear ∧ l.rear ≤ 4000
  axle : 0 ≤ l.axle ∧ l.axle ≤ 100000
  deck : 0 ≤ l.deck ∧ l.deck ≤ 100
theorem Lo.ok_iff {l : Lo} : l.okB = true ↔ l.Ok := by
  simp only [Lo.okB, Bool.and_eq_true, btw_iff, List.all_eq_true]
  constructor
  · rintro ⟨⟨⟨⟨⟨⟨⟨a, b⟩, c⟩, d⟩, e⟩, f⟩, g⟩, h⟩
    exact ⟨by omega, b, c, d, e, f, g, h⟩
  · rintro ⟨a, b, c, d, e, f, g, h⟩
    exact ⟨⟨⟨⟨⟨⟨⟨by omega, b⟩, c⟩, d⟩, e⟩, f⟩, g⟩, h⟩
/-- the error of things, at most so many; of a lorry and things -/
def cargoE (ts : List Th) (most : Nat) : Int := if most < ts.length then 3 else if ts.all Th.okB then 0 else 1
def checkE (l : Lo) (ts : List Th) : Int := if l.okB then cargoE ts 14 else 1
theorem cargoE_zero {ts : List Th} {most : Nat} : cargoE ts most = 0 ↔ ts.length ≤ most ∧ ∀ t ∈ ts, t.Ok := by
  unfold cargoE
  by_cases h : most < ts.length
  · rw [if_pos h]; constructor
    · intro e; cases e
    · intro e; omega
  · rw [if_neg h]
    by_cases h2 : ts.all Th.okB = true
    · rw [if_pos h2]
      simp only [true_iff]
      refine ⟨by omega, fun t ht => Th.ok_iff.1 (List.all_eq_true.1 h2 t ht)⟩
    · rw [if_neg h2]
      constructor
      · intro e; cases e
      · rintro ⟨-, h3⟩
        exact absurd (List.all_eq_true.2 fun t ht => Th.ok_iff.2 (h3 t ht)) h2
theorem checkE_zero {l : Lo} {ts : List Th} : checkE l ts = 0 ↔ l.Ok ∧ ts.length ≤ 14 ∧ ∀ t ∈ ts, t.Ok := by
  unfold checkE
  by_cases h : l.okB = true
  · rw [if_pos h, cargoE_zero]
    exact ⟨fun x => ⟨Lo.ok_iff.1 h, x⟩, fun x => x.2⟩
  · rw [if_neg h]
    constructor
    · intro e; cases e
    · rintro ⟨h3, -⟩
      exact absurd (Lo.ok_iff.2 h3) h
theorem cargoE_cases (ts : List Th) (most : Nat) : cargoE ts most = 0 ∨ cargoE ts most = 1 ∨ cargoE ts most = 3 := by
  unfold cargoE; split
  · simp
  · split <;> simp
theorem checkE_cases (l : Lo) (ts : List Th) : checkE l ts = 0 ∨ checkE l ts = 1 ∨ checkE l ts = 3 := by
  unfold checkE; split
  · exact cargoE_cases _ _
  · simp
def th0 : Th := ⟨0, 0, 0, 0⟩
/-- the thing with a number -/
def thAt (ts : List Th) (n : Int) : Th := ts.getD n.toNat th0
theorem thAt_eq {ts : List Th} {k : Nat} (h : k < ts.length) : thAt ts (k : Int) = ts[k] := by simp [thAt, List.getD, h]
/-- numbers of things -/
def InR (n : Nat) (l : List Int) : Prop := ∀ x ∈ l, 0 ≤ x ∧ x < n
theorem thAt_mem {ts : List Th} {x : Int} (h0 : 0 ≤ x) (h1 : x < ts.length) : thAt ts x ∈ ts := by
  obtain ⟨k, rfl⟩ : ∃ k : Nat, x = k := ⟨x.toNat, by omega⟩
  rw [thAt_eq (by omega)]; exact List.getElem_mem _
def massL (ts : List Th) (l : List Int) : Int := isum (l.map fun n => (thAt ts n).mass)
def longL (ts : List Th) (l : List Int) : Int := isum (l.map fun n => (thAt ts n).long)
def highL (ts : List Th) (l : List Int) : Int := l.foldl (fun m n => max m (thAt ts n).high) 0
def carB (j : Lo) (ts : List Th) (l : List Int) : Bool := decide (massL ts l ≤ j.carries) && decide (highL ts l ≤ j.height)
/-! ### The search -/
def canB (ld : Bool) (t : Th) (left needs : List Int) (i : Nat) : Bool := (!ld || decide (t.need ≤ needs.getD i 0)) && decide (t.long ≤ left.getD i 0)
def stepL (t : Th) (left : List Int) (i : Nat) : List Int := left.set i (left.getD i 0 - t.long)
def stepN (ld : Bool) (t : Th) (needs : List Int) (i : Nat) : List Int := if ld then needs.set i t.need else needs
def waysL (nl : Nat) (ld : Bool) (t : Th) (left needs : List Int) : List Nat := (List.range nl).filter (canB ld t left needs)
/-- the first way to put things into lanes -/
def srch (nl : Nat) (ld : Bool) : List Th → List Int → List Int → Option (List Nat)
  | [], _, _ => some []
  | t :: r, left, needs => (waysL nl ld t left needs).findSome? fun i => (srch nl ld r (stepL t left i) (stepN ld t needs i)).map (i :: ·)
theorem waysL_mem {nl : Nat} {ld : Bool} {t : Th} {left needs : List Int} {i : Nat} : i ∈ waysL nl ld t left needs ↔ i < nl ∧ canB ld t left needs i = true := by simp [waysL]
theorem srch_len {nl : Nat} {ld : Bool} : ∀ (ts : List Th) (left needs : List Int) (p : List Nat), srch nl ld ts left needs = some p → p.length = ts.length
  | [], _, _, p, h => by cases h; rfl
  | t :: r, left, needs, p, h => by
    obtain ⟨i, hi, hp⟩ := List.exists_of_findSome?_eq_some h
    obtain ⟨q, hq, rfl⟩ := Option.map_eq_some_iff.1 hp
    simp [srch_len r _ _ q hq]
/-- what a way is -/
def fitP (nl : Nat) (ld : Bool) : List Th → List Int → List Int → List Nat → Prop
  | [], _, _, [] => True
  | t :: r, left, needs, i :: p => i < nl ∧ canB ld t left needs i = true ∧ fitP nl ld r (stepL t left i) (stepN ld t needs i) p
  | _, _, _, _ => False
theorem srch_fit {nl : Nat} {ld : Bool} : ∀ (ts : List Th) (left needs : List Int) (p : List Nat), srch nl ld ts left needs = some p → fitP nl ld ts left needs p
  | [], _, _, p, h => by cases h; trivial
  | t :: r, left, needs, p, h => by
    obtain ⟨i, hi, hp⟩ := List.exists_of_findSome?_eq_some h
    obtain ⟨q, hq, rfl⟩ := Option.map_eq_some_iff.1 hp
    obtain ⟨h1, h2⟩ := waysL_mem.1 hi
    exact ⟨h1, h2, srch_fit r _ _ q hq⟩
/-- not later, number by number -/
inductive LexLe : List Nat → List Nat → Prop where
  | same (l : List Nat) : LexLe l l
  | less (i k : Nat) (p q : List Nat) (h : i < k) : LexLe (i :: p) (k :: q)
  | next (i : Nat) (p q : List Nat) (h : LexLe p q) : LexLe (i :: p) (i :: q)
theorem findSome_first {α : Type} {f : Nat → Option α} : ∀ {l : List Nat}, l.Pairwise (· < ·) → ∀ {k : Nat}, k ∈ l → (f k).isSome = true → ∃ i b, i ∈ l ∧ f i = some b ∧ l.findSome? f = some b ∧ i ≤ k
  | [], _, k, hk, _ => by cases hk
  | a :: l, h, k, hk, hf => by
    have h1 := List.pairwise_cons.1 h
    cases ha : f a with
    | some b =>
      refine ⟨a, b, by simp, ha, by simp [ha], ?_⟩
      rcases List.mem_cons.1 hk with rfl | hk
      · exact Nat.le_refl _
      · exact Nat.le_of_lt (h1.1 k hk)
    | none =>
      rcases List.mem_cons.1 hk with rfl | hk
      · rw [ha] at hf; cases hf
      · obtain ⟨i, b, hi, hb, h2, h3⟩ := findSome_first h1.2 hk hf
        exact ⟨i, b, by simp [hi], hb, by simp [ha, h2], h3⟩
theorem ways_sorted (nl : Nat) (ld : Bool) (t : Th) (left needs : List Int) : (waysL nl ld t left needs).Pairwise (· < ·) := List.Pairwise.filter _ List.pairwise_lt_range
theorem srch_least {nl : Nat} {ld : Bool} : ∀ (ts : List Th) (left needs : List Int) (q : List Nat), fitP nl ld ts left needs q → ∃ p, srch nl ld ts left needs = some p ∧ LexLe p q
  | [], _, _, [], _ => ⟨[], rfl, .same _⟩
  | [], _, _, _ :: _, h => h.elim
  | _ :: _, _, _, [], h => h.elim
  | t :: r, left, needs, k :: q, h => by
    obtain ⟨h1, h2, h3⟩ := h
    obtain ⟨p, hp, hpq⟩ := srch_least r _ _ q h3
    obtain ⟨i, b, hi, hb, hf, hle⟩ := findSome_first (f := fun i => (srch nl ld r (stepL t left i) (stepN ld t needs i)).map (i :: ·)) (ways_sorted nl ld t left needs) (waysL_mem.2 ⟨h1, h2⟩) (by simp [hp])
    refine ⟨b, hf, ?_⟩
    obtain ⟨p', hp', rfl⟩ := Option.map_eq_some_iff.1 hb
    by_cases e : i = k
    · subst e
      rw [hp] at hp'; cases hp'
      exact .next _ _ _ hpq
    · exact .less _ _ _ _ (by omega)
/-- the things that go to a lane -/
def part (l : List Int) (p : List Nat) (i : Nat) : List Int := ((l.zip p).filter fun x => x.2 == i).map (·.1)
/-- by falling need -/
def needC (ts : List Th) (a b : Int) : Int := -(thAt ts a).need - -(thAt ts b).need
def laid (ts : List Th) (nl : Nat) (l : List Int) (p : List Nat) : List (List Int) := (List.range nl).map fun i => sortL (needC ts) (part l p i)
/-- the rooms ahead of the search -/
def pad (l : List Int) : List Int := (List.range 6).map fun i => l.getD i 0
def firstN (nl : Nat) : List Int := (List.range 6).map fun i => if i < nl then 1000 else 0
def packL (j : Lo) (ts : List Th) (l : List Int) (ld : Bool) : Option (List (List Int)) :=
  if carB j ts l then (srch j.lanes.length ld (l.map (thAt ts)) (pad j.lanes) (firstN j.lanes.length)).map fun p => laid ts j.lanes.length l p else none
end Go.Wg

/- slices.Backward over the grid's nodes. -/
import Derived.RangeFuncNested
import Derived.RangeFuncBound
import Derived.RangeFuncCalls
import Derived.RangeFuncLeaves
import Derived.Shelf.Abstract
import Derived.WalkKit
import Derived.OwnWalkIn
import Derived.TacticsInMore
import Derived.LoopNIn
import Derived.LoopIn
import Derived.Test.YtopfhinnamhoiaaGridA
namespace Go.Proofs.Ytopfhinnamhoiaa
open Go.RowKit Go.Bs Go.Yd Go.Pl Go.Sort

/-- a number of a node -/
abbrev Ix (n : Nat) := { x : Nat // x < n }
/-- the k numbers that come first, from the greatest on -/
def backs (n : Nat) : (k : Nat) → k ≤ n → List (Ix n)
  | 0, _ => []
  | k + 1, h => backs n k (by omega) ++ [⟨n - 1 - k, by omega⟩]
theorem backs_len (n : Nat) : ∀ k h, (backs n k h).length = k
  | 0, _ => rfl
  | k + 1, h => by simp [backs, backs_len n k]

theorem back_any (A : Option Addr) (n cap : Nat) (w : World) :
    Calls Try.prog 102 #[.slice A n cap] w fun e w' => e = .returned (.func (.func 127) #[] #[.pointer (some ⟨w.heap.size, 0, none⟩)]) ∧ w' = w.alloc (.cells #[.slice A n cap] 41) := by
  go_enter Try.func102, Try.ntmps102
  go_wp2
  go_ret
  exact ⟨rfl, rfl⟩

/-- What a round keeps: what lay below n₀, and the box Bs. -/
def Kept (n₀ Bs : Nat) (X Y : World) : Prop := Below n₀ X Y ∧ Y.cell? ⟨Bs, 0, none⟩ = X.cell? ⟨Bs, 0, none⟩
theorem Kept.trans {n₀ Bs : Nat} {X Y Z : World} (h : Kept n₀ Bs X Y) (k : Kept n₀ Bs Y Z) : Kept n₀ Bs X Z := ⟨h.1.trans k.1, k.2.trans h.2⟩
theorem Kept.put {n₀ Bs : Nat} {w : World} (hn : n₀ ≤ w.heap.size) (hB : Bs < w.heap.size) (W : World) (l : Nat) (o o' : Obj) (hl : w.heap.size ≤ l) (h : W.heap[l]? = some o) (hc : o.isCells = false) (hw : o.isWalk = false) : Kept n₀ Bs W (W.putObj l o') := by
  refine ⟨belowK_b hn W l o o' hl h hc hw, ?_⟩
  have hne : Bs ≠ l := by omega
  simp [World.cell?, World.putObj, Array.getElem?_setIfInBounds, Ne.symm hne]

/-- How far a round has come. -/
structure Rnd (B n₀ Bs : Nat) (W W' : World) : Prop where
  kf : KeepsFrom B W W'
  kp : Kept n₀ Bs W W'
  sz : W.heap.size ≤ W'.heap.size
theorem Rnd.refl (B n₀ Bs : Nat) (W : World) : Rnd B n₀ Bs W W := ⟨KeepsFrom.refl _ _, ⟨Below.refl _ _, rfl⟩, Nat.le_refl _⟩
theorem Rnd.ext {B n₀ Bs : Nat} {W W' W'' : World} (h : Rnd B n₀ Bs W W') (hb : Below W'.heap.size W' W'') (h1 : n₀ ≤ W.heap.size) (h2 : Bs < W.heap.size) : Rnd B n₀ Bs W W'' :=
  ⟨h.kf.trans ⟨hb.size, fun k o _ hk _ => (hb.block k (Array.getElem?_eq_some_iff.1 hk).1).trans hk⟩,
   h.kp.trans ⟨hb.mono (Nat.le_trans h1 h.sz), hb.cell (p := ⟨Bs, 0, none⟩) (Nat.lt_of_lt_of_le h2 h.sz)⟩, Nat.le_trans h.sz hb.size⟩
theorem Rnd.setCell {B n₀ Bs : Nat} {W W' : World} {p : Addr} (h : Rnd B n₀ Bs W W') (h1 : n₀ ≤ p.block) (h2 : Bs ≠ p.block) (u : Value) : Rnd B n₀ Bs W (W'.setCell p u) := by
  refine ⟨h.kf.trans ((KeepsOthers.setCell _ _ _).from _), h.kp.trans ⟨(Below.refl _ _).setCell h1 _, ?_⟩, ?_⟩
  · have hh : (W'.setCell p u).heap[Bs]? = W'.heap[Bs]? := Below.heap_setCell W' p u Bs h2
    simp [World.cell?, hh]
  · have := h.sz
    simpa [World.setCell] using this

section
attribute [local go_sem] Oper.semAt_some
set_option maxRecDepth 100000 in
set_option maxHeartbeats 2000000 in
theorem back1_in (g : Gd) (F : Fence) (m : Nat) (h : F.fn 127) (hro : F.round = none) (hm : 1 ≤ m) (l Bs n₀ n cap : Nat) (A : Option Addr) (hn : g.nodes.length = n) (hn9 : n ≤ 1000000000) (hA : ∀ k, A.map (·.block) = some k → k < n₀) (J Jx : List (Ix n) → World → Prop)
    (hY : ∀ pre x W, J pre W → pre.length < n → YieldAt F (m - 1) Try.prog l #[.int .i64 (x.1 : Int), Nd.val (g.node x.1)] W fun e W' =>
      (e = .returned (.bool true) ∧ J (pre ++ [x]) W' ∧ Kept n₀ Bs W W') ∨ (e = .returned (.bool false) ∧ Jx (pre ++ [x]) W'))
    (W : World) (hBs : W.cell? ⟨Bs, 0, none⟩ = some (.slice A n cap)) (hc : GdAt W A g) (h0 : J [] W) :
    CallsIn F m Try.prog 127 #[.func (.yield l) #[] #[], .pointer (some ⟨Bs, 0, none⟩)] W fun e W' => (∃ v, e = .returned v) ∧
      ((∃ ys, ys = backs n n (Nat.le_refl _) ∧ J ys W') ∨ (∃ pre, (∃ k, ∃ h : k ≤ n, pre = backs n k h) ∧ Jx pre W')) := by
  refine callsIn_of_wp Try.func127 rfl h ?_ hro
  simp only [Try.ntmps127, List.size_toArray, List.length_cons, List.length_nil, Nat.reduceAdd, Nat.reduceSub, Array.replicate_succ, Array.replicate_zero, List.push_toArray, List.append_toArray, List.nil_append, List.cons_append]
  gi_wp2
  gi_loopw [3] (fun i wr => ∃ k : Nat, ∃ h : k ≤ n, ∃ x : Int, i = .int .i64 x ∧ x = (n : Int) - 1 - k ∧ J (backs n k h) wr ∧ Kept n₀ Bs W wr)
    (fun i _ => (intOf i + 1).toNat)
  case atStart => exact ⟨0, Nat.zero_le _, _, rfl, by simp, h0, ⟨Below.refl _ _, rfl⟩⟩
  case round =>
    obtain ⟨k, hk, x, rfl, hx, hJs, hnx⟩ := hrel
    have hBs' := hnx.2.trans hBs
    by_cases hlt : k < n
    · obtain ⟨j, rfl⟩ : ∃ j : Nat, x = j := ⟨n - 1 - k, by omega⟩
      have hj : j = n - 1 - k := by omega
      have hjlt : j < n := by omega
      have hjn : (j : Int) < n := by omega
      have hj0 : (0 : Int) ≤ j := by omega
      have hcw : GdAt wr A g := Cells.keep hc (fun p _ hp => hnx.1.cell (hA _ hp))
      obtain ⟨b, off, rfl, -, c0, c1, c2, c3, c4⟩ := hcw.node (k := j) (by omega)
      obtain ⟨fn, tmps, assign, body, hy, hR⟩ := hY _ ⟨j, hjlt⟩ wr hJs (by rw [backs_len]; exact hlt)
      dsimp only [Nd.val] at hy
      have hnext : backs n (k + 1) hlt = backs n k hk ++ [⟨j, hjlt⟩] := by subst hj; rfl
      have Hnext := Lib.hid hnext
      have Hx := Lib.hid hx
      have Hj := Lib.hid hj
      clear hnext hx hj hcw
      gi_wp2
      refine hR.mono ?_
      rintro e W3 (⟨rfl, hJ3, hk3⟩ | ⟨rfl, hJx3⟩)
      · gi_wp2
        go_roundw
        case rel => exact ⟨k + 1, by omega, _, rfl, by rw [Hx.out]; omega, by rw [Hnext.out]; exact hJ3, hnx.trans hk3⟩
        case measure => simp [intOf]
      · gi_wp2
        refine bodyPost_ret (results_none rfl _ _ _) rfl ?_
        exact ⟨⟨_, rfl⟩, .inr ⟨_, ⟨k + 1, by omega, Hnext.out.symm⟩, hJx3⟩⟩
    · obtain rfl : k = n := by omega
      have hx1 : x = -1 := by omega
      subst hx1
      clear hx
      gi_wp2
      go_end0
      exact ⟨⟨_, rfl⟩, .inl ⟨_, rfl, hJs⟩⟩

theorem back_stops (g : Gd) (F : Fence) (m : Nat) (h : F.fn 127) (hro : F.round = none) (hm : 1 ≤ m) (Bs n₀ n cap : Nat) (A : Option Addr) (hn : g.nodes.length = n) (hn9 : n ≤ 1000000000) (hA : ∀ k, A.map (·.block) = some k → k < n₀) (w : World)
    (hn₀ : n₀ ≤ w.heap.size) (hBs : w.cell? ⟨Bs, 0, none⟩ = some (.slice A n cap)) (hB0 : Bs < w.heap.size) (hc : GdAt w A g) :
    SeqStopsK F m Try.prog 127 #[.pointer (some ⟨Bs, 0, none⟩)] (fun x : Ix n => #[Value.int .i64 (x.1 : Int), Nd.val (g.node x.1)]) (Kept n₀ Bs) (fun ys => ys = backs n n (Nat.le_refl _)) (fun pre => ∃ k, ∃ h : k ≤ n, pre = backs n k h) n w := fun l J Jx W hW _ _ hY h0 =>
  back1_in g F m h hro hm l Bs n₀ n cap A hn hn9 hA J Jx hY W ((hW.cell (p := ⟨Bs, 0, none⟩) hB0).trans hBs) (hc.ext hW) h0
end
end Go.Proofs.Ytopfhinnamhoiaa

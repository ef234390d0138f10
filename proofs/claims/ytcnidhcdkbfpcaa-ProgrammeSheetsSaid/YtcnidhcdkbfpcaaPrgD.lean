/- Walk: the members of a set (an iterator). -/
import Derived.RangeFuncNested
import Derived.RangeFuncBound
import Derived.RangeFuncCalls
import Derived.RangeFuncLeaves
import Derived.OwnWalkIn
import Derived.TacticsInMore
import Derived.LoopNIn
import Derived.LoopIn
import Derived.Sort.CutIn
import Derived.Test.YtcnidhcdkbfpcaaPrgC
namespace Go.Dr
open Go.RowKit Go.Bs
theorem Bel.then_below {M : List Nat} {a b c : World} (h : Bel M a b) (k : Below a.heap.size b c) : Bel M a c :=
  ⟨k.os.trans h.os, k.tape.trans h.tape, k.output.trans h.output, Nat.le_trans h.size k.size, fun i hi hm => (k.block i hi).trans (h.block i hi hm)⟩
theorem Bel.put {M : List Nat} {a b : World} (h : Bel M a b) {p : Addr} (hp : p.block ∈ M) (u : Value) : Bel M a (b.setCell p u) := h.trans (Bel.store hp u)
theorem Bel.old {M : List Nat} {a b : World} {n : Nat} (h : Bel M a b) (hn : n ≤ a.heap.size) (hM : ∀ k ∈ M, n ≤ k) : Below n a b :=
  ⟨h.os, h.tape, h.output, h.size, fun k hk => h.block k (Nat.lt_of_lt_of_le hk hn) (fun hm => by have := hM k hm; omega)⟩
theorem Bel.blk {M : List Nat} {a b : World} (h : Bel M a b) {B T : Nat} {cs : List Value} (hB : Blk a B T cs) (hm : B ∉ M) : Blk b B T cs := (h.block B hB.lt hm).trans hB
theorem Bel.wide {M N : List Nat} {a b : World} (h : Bel M a b) (hs : ∀ k ∈ M, k ∈ N) : Bel N a b := ⟨h.os, h.tape, h.output, h.size, fun i hi hm => h.block i hi (fun hk => hm (hs i hk))⟩
theorem cells_bel {α : Type} {w w' : World} {M : List Nat} {A : Option Addr} {sz : Nat} {enc : α → List Value} {l : List α} (h : Cells w A sz enc l) (hb : Bel M w w') (hA : ∀ k, A.map (·.block) = some k → k ∉ M) : Cells w' A sz enc l := by
  refine h.keep (fun p hp hq => ?_)
  rw [World.cell?_of_block (hb.block p.block hp (hA _ hq))]
/-- of a new row of one element -/
theorem new_cell {w : World} {T : Nat} {cs : List Value} : ∀ j u, cs[j]? = some u → (w.alloc (.cells cs.toArray T)).cell? ⟨w.heap.size, j, none⟩ = some u := fun _ _ h => (Blk.new w T cs).cell h
end Go.Dr
namespace Go.Bs
open Go.RowKit Go.Pl Go.Sort
/-- What a round keeps: what lay below n₀, and the box Bs. -/
def Kept (n₀ Bs : Nat) (X Y : World) : Prop := Below n₀ X Y ∧ Y.cell? ⟨Bs, 0, none⟩ = X.cell? ⟨Bs, 0, none⟩
theorem Kept.trans {n₀ Bs : Nat} {X Y Z : World} (h : Kept n₀ Bs X Y) (k : Kept n₀ Bs Y Z) : Kept n₀ Bs X Z := ⟨h.1.trans k.1, k.2.trans h.2⟩
theorem Kept.put {n₀ Bs : Nat} {w : World} (hn : n₀ ≤ w.heap.size) (hB : Bs < w.heap.size) (W : World) (l : Nat) (o o' : Obj) (hl : w.heap.size ≤ l) (h : W.heap[l]? = some o) (hc : o.isCells = false) (hw : o.isWalk = false) : Kept n₀ Bs W (W.putObj l o') := by
  refine ⟨belowK_b hn W l o o' hl h hc hw, ?_⟩
  have hne : Bs ≠ l := by omega
  simp [World.cell?, World.putObj, Ne.symm hne]
/-- How far a round has come. -/
structure Rnd (B n₀ Bs : Nat) (W W' : World) : Prop where
  kf : KeepsFrom B W W'
  kp : Kept n₀ Bs W W'
  sz : W.heap.size ≤ W'.heap.size
theorem Rnd.refl (B n₀ Bs : Nat) (W : World) : Rnd B n₀ Bs W W := ⟨KeepsFrom.refl _ _, ⟨Below.refl _ _, rfl⟩, Nat.le_refl _⟩
theorem Rnd.ext {B n₀ Bs : Nat} {W W' W'' : World} (h : Rnd B n₀ Bs W W') (hb : Below W'.heap.size W' W'') (h1 : n₀ ≤ W.heap.size) (h2 : Bs < W.heap.size) : Rnd B n₀ Bs W W'' :=
  ⟨h.kf.trans ⟨hb.size, fun k _ _ hk _ => (hb.block k (Array.getElem?_eq_some_iff.1 hk).1).trans hk⟩,
   h.kp.trans ⟨hb.mono (Nat.le_trans h1 h.sz), hb.cell (p := ⟨Bs, 0, none⟩) (Nat.lt_of_lt_of_le h2 h.sz)⟩, Nat.le_trans h.sz hb.size⟩
theorem Rnd.setCell {B n₀ Bs : Nat} {W W' : World} {p : Addr} (h : Rnd B n₀ Bs W W') (h1 : n₀ ≤ p.block) (h2 : Bs ≠ p.block) (u : Value) : Rnd B n₀ Bs W (W'.setCell p u) := by
  refine ⟨h.kf.trans ((KeepsOthers.setCell _ _ _).from _), h.kp.trans ⟨(Below.refl _ _).setCell h1 _, ?_⟩, ?_⟩
  · have hh : (W'.setCell p u).heap[Bs]? = W'.heap[Bs]? := Below.heap_setCell W' p u Bs h2
    simp [World.cell?, hh]
  · have := h.sz
    simpa [World.setCell] using this
theorem Blk.kept {W W' : World} {B T : Nat} {cs : List Value} {row : Option Nat} (h : Blk W B T cs) (hg : W.grownBy W' row) (hr : ∀ r, row = some r → ∃ o : Obj, W.heap[r]? = some o ∧ o.isCells = false) : Blk W' B T cs :=
  (hg.block B h.lt (fun e => by
    obtain ⟨o, h1, h2⟩ := hr B e.symm
    rw [show W.heap[B]? = _ from h] at h1
    cases h1; cases h2)).trans h
theorem below_grown {n : Nat} {w W W' : World} {row : Option Nat} (h : Below n w W) (hn : n ≤ W.heap.size) (hg : W.grownBy W' row) (hr : ∀ k, row = some k → n ≤ k) : Below n w W' :=
  h.trans ⟨hg.os, hg.tape, hg.output, hg.size, fun k hk => hg.block k (by omega) (fun e => by have := hr k e.symm; omega)⟩
end Go.Bs
namespace Go.Pg
open Go.Pl
/-- a number of a set -/
abbrev Mb (s : Nat) := { x : Nat // s.testBit x = true }
def mbL (s k : Nat) : List (Mb s) := (List.range k).filterMap fun i => if h : s.testBit i = true then some ⟨i, h⟩ else none
theorem mbL_hit {s k : Nat} (h : s.testBit k = true) : mbL s (k + 1) = mbL s k ++ [⟨k, h⟩] := by
  unfold mbL
  rw [List.range_succ, List.filterMap_append]
  simp [h]
theorem mbL_miss {s k : Nat} (h : s.testBit k = false) : mbL s (k + 1) = mbL s k := by
  unfold mbL
  rw [List.range_succ, List.filterMap_append]
  simp [h]
theorem mbL_val (s k : Nat) : (mbL s k).map (·.1) = (List.range k).filter fun i => s.testBit i := by
  induction k with
  | zero => rfl
  | succ k ih =>
    rw [List.range_succ, List.filter_append, ← ih]
    cases h : s.testBit k
    · rw [mbL_miss h]; simp [h]
    · rw [mbL_hit h]; simp [h]
theorem mbL_len (s k : Nat) : (mbL s k).length ≤ k := by
  have := congrArg List.length (mbL_val s k)
  rw [List.length_map] at this
  rw [this]
  refine Nat.le_trans (List.length_filter_le _ _) (by simp)
theorem filt_end {p : Nat → Bool} {k n : Nat} (h : k ≤ n) (hp : ∀ i, k ≤ i → p i = false) : (List.range n).filter p = (List.range k).filter p := by
  induction n with
  | zero => obtain rfl : k = 0 := by omega
            rfl
  | succ n ih =>
    by_cases hk : k = n + 1
    · rw [hk]
    · rw [List.range_succ, List.filter_append, ih (by omega)]
      simp [hp n (by omega)]
theorem mbL_end {s k : Nat} (hk : k ≤ 16) (h : s / 2 ^ k = 0) : (mbL s k).map (·.1) = Sh.memb s := by
  rw [mbL_val]
  unfold Sh.memb
  rw [filt_end hk]
  intro i hi
  refine Nat.testBit_lt_two_pow ?_
  rw [Nat.div_eq_zero_iff] at h
  have h2 : 2 ^ k ≤ 2 ^ i := Nat.pow_le_pow_right (by omega) hi
  have := Nat.two_pow_pos k
  omega
theorem mem_memb {s i : Nat} : i ∈ Sh.memb s ↔ i < 16 ∧ s.testBit i = true := by simp [Sh.memb]
theorem bit16 (s i : Nat) (hs : s < 65536) : bits BinOp.and IntKind.u16 ((s : Int) / 2 ^ i) 1 = if s.testBit i = true then 1 else 0 := by
  have e : (s : Int) / 2 ^ i = ((s / 2 ^ i : Nat) : Int) := by norm_cast
  have h := u16_and_nat (s / 2 ^ i) 1 (Nat.lt_of_le_of_lt (Nat.div_le_self _ _) hs) (by omega)
  rw [e]
  rw [show ((1 : Nat) : Int) = 1 from rfl] at h
  rw [h, Nat.and_one_is_mod, Nat.testBit_eq_decide_div_mod_eq]
  by_cases h2 : s / 2 ^ i % 2 = 1
  · simp [h2]
  · have : s / 2 ^ i % 2 = 0 := by omega
    simp [this]
theorem andNot16 (a b : Nat) (ha : a < 65536) : ∃ c : Nat, c < 65536 ∧ bits .andNot .u16 (a : Int) (b : Int) = (c : Int) ∧ ∀ i, c.testBit i = (a.testBit i && !b.testBit i) := by
  refine ⟨(BitVec.ofNat 16 a &&& ~~~ BitVec.ofNat 16 b).toNat, BitVec.isLt _, ?_, fun i => ?_⟩
  · unfold bits
    simp only [BitVec.ofInt_natCast]
    rw [IntKind.wrap_u16]
    have : (BitVec.ofNat IntKind.u16.bits a &&& ~~~ BitVec.ofNat IntKind.u16.bits b).toNat < 65536 := BitVec.isLt _
    show _ = ((BitVec.ofNat IntKind.u16.bits a &&& ~~~ BitVec.ofNat IntKind.u16.bits b).toNat : Int)
    omega
  · rw [BitVec.testBit_toNat, BitVec.getLsbD_and, BitVec.getLsbD_not, BitVec.getLsbD_ofNat, BitVec.getLsbD_ofNat]
    by_cases h : i < 16
    · simp [h]
    · have : a.testBit i = false := Nat.testBit_lt_two_pow (Nat.lt_of_lt_of_le ha (show 2 ^ 16 ≤ 2 ^ i from Nat.pow_le_pow_right (by omega) (by omega)))
      simp [this]
theorem shr_ne (s k : Nat) : ((s : Int) / 2 ^ k != 0) = !decide (s / 2 ^ k = 0) := by
  have e : (s : Int) / 2 ^ k = ((s / 2 ^ k : Nat) : Int) := by norm_cast
  rw [e, bne]
  congr 1
  rw [Bool.eq_iff_iff]
  simp only [beq_iff_eq, decide_eq_true_eq]
  omega
end Go.Pg
namespace Go.Proofs.Ytcnidhcdkbfpcaa
open Go.RowKit Go.Bs Go.Pg Go.Pl Go.Sort

theorem members_any (s : Nat) (w : World) :
    Calls Try.prog 75 #[.int .u16 s] w fun e w' => e = .returned (.func (.func 97) #[] #[.pointer (some ⟨w.heap.size, 0, none⟩)]) ∧ w' = w.alloc (.cells #[.int .u16 s] 47) := by
  go_enter Try.func75, Try.ntmps75
  go_wp2
  go_ret
  exact ⟨rfl, rfl⟩
section
attribute [local go_sem] Oper.semAt_some
set_option maxRecDepth 100000 in
set_option maxHeartbeats 2000000 in
theorem mem_in (s : Nat) (hs : s < 65536) (F : Fence) (f : Nat) (h : F.fn 97) (hro : F.round = none) (hf : 1 ≤ f) (l Bs n₀ : Nat) (J Jx : List (Mb s) → World → Prop) (W : World)
    (hY : ∀ pre x W, J pre W → pre.length < 16 → YieldAt F (f - 1) Try.prog l #[Value.int .i64 (x.1 : Int)] W fun e W' =>
      (e = .returned (.bool true) ∧ J (pre ++ [x]) W' ∧ Kept n₀ Bs W W') ∨ (e = .returned (.bool false) ∧ Jx (pre ++ [x]) W'))
    (hBs : W.cell? ⟨Bs, 0, none⟩ = some (.int .u16 s)) (h0 : J [] W) :
    CallsIn F f Try.prog 97 #[.func (.yield l) #[] #[], .pointer (some ⟨Bs, 0, none⟩)] W fun e W' => (∃ v, e = .returned v) ∧
      ((∃ ys : List (Mb s), ys.map (·.1) = Sh.memb s ∧ J ys W') ∨ (∃ pre, True ∧ Jx pre W')) := by
  refine callsIn_of_wp Try.func97 rfl h ?_ hro
  simp only [Try.ntmps97, List.size_toArray, List.length_cons, List.length_nil, Nat.reduceAdd, Nat.reduceSub, Array.replicate_succ, Array.replicate_zero, List.push_toArray, List.append_toArray, List.nil_append, List.cons_append]
  have HY := Lib.hid hY
  clear hY
  gi_wp2
  gi_loopw [3] (fun i wr => ∃ k : Nat, k ≤ 16 ∧ i = .int .i64 k ∧ Hid (J (mbL s k) wr) ∧ Kept n₀ Bs W wr)
    (fun i _ => 16 - (intOf i).toNat)
  case atStart => exact ⟨0, Nat.zero_le _, rfl, Lib.hid h0, ⟨Below.refl _ _, rfl⟩⟩
  case round =>
    obtain ⟨k, hk, rfl, hJs, hnx⟩ := hrel
    have hBs' := hnx.2.trans hBs
    clear hBs
    by_cases hz : s / 2 ^ k = 0
    · have hzb : ((s : Int) / 2 ^ k != 0) = false := by rw [shr_ne]; simp [hz]
      have Hz := Lib.hid hz
      clear hz HY
      gi_wp2
      go_end0
      exact ⟨⟨_, rfl⟩, .inl ⟨_, mbL_end hk Hz.out, hJs.out⟩⟩
    · have hzb : ((s : Int) / 2 ^ k != 0) = true := by rw [shr_ne]; simp [hz]
      have hk16 : k < 16 := by
        rcases Nat.lt_or_ge k 16 with h1 | h1
        · exact h1
        · exact absurd (Nat.div_eq_of_lt (Nat.lt_of_lt_of_le hs (show 2 ^ 16 ≤ 2 ^ k from Nat.pow_le_pow_right (by omega) h1))) hz
      clear hz
      have hb16 := bit16 s k hs
      cases hbit : s.testBit k
      · have hj : J (mbL s (k + 1)) wr := by rw [mbL_miss hbit]; exact hJs.out
        have Hj := Lib.hid hj
        rw [hbit] at hb16
        simp only [Bool.false_eq_true, if_false] at hb16
        clear hj HY hJs hbit
        gi_wp2
        refine ⟨fun f e => (by cases e), ?_⟩
        gi_wp2
        go_roundw
        case rel => exact ⟨k + 1, by omega, by go_num, Hj, hnx⟩
        case measure => simp [intOf]; omega
      · obtain ⟨fn, tmps, assign, body, hy, hR⟩ := HY.out _ ⟨k, hbit⟩ wr hJs.out (by have := mbL_len s k; omega)
        have HR := Lib.hid hR
        have hh := Lib.hid (mbL_hit hbit)
        rw [hbit] at hb16
        simp only [if_true] at hb16
        dsimp only at hy
        clear hR HY hJs
        gi_wp2
        have hR := HR.out
        refine hR.mono ?_
        rintro e W3 (⟨rfl, hJ3, hk3⟩ | ⟨rfl, hJx3⟩)
        · have HJ3 := Lib.hid (show J (mbL s (k + 1)) W3 by rw [hh.out]; exact hJ3)
          clear hJ3
          gi_wp2
          go_roundw
          case rel => exact ⟨k + 1, by omega, by go_num, HJ3, hnx.trans hk3⟩
          case measure => simp [intOf]; omega
        · have HJ3 := Lib.hid (show Jx (mbL s (k + 1)) W3 by rw [hh.out]; exact hJx3)
          clear hJx3
          gi_wp2
          refine bodyPost_ret (results_none rfl _ _ _) rfl ?_
          exact ⟨⟨_, rfl⟩, .inr ⟨_, trivial, HJ3.out⟩⟩
theorem mem_stops (s : Nat) (hs : s < 65536) (F : Fence) (f : Nat) (h : F.fn 97) (hro : F.round = none) (hf : 1 ≤ f) (Bs n₀ : Nat) (w : World) (hBs : w.cell? ⟨Bs, 0, none⟩ = some (.int .u16 s)) (hB : Bs < w.heap.size) :
    SeqStopsK F f Try.prog 97 #[.pointer (some ⟨Bs, 0, none⟩)] (fun x : Mb s => #[Value.int .i64 (x.1 : Int)]) (Kept n₀ Bs) (fun ys => ys.map (·.1) = Sh.memb s) (fun _ => True) 16 w := fun l J Jx W hW _ _ hY h0 =>
  mem_in s hs F f h hro hf l Bs n₀ J Jx W hY ((hW.cell (p := ⟨Bs, 0, none⟩) hB).trans hBs) h0
end
end Go.Proofs.Ytcnidhcdkbfpcaa

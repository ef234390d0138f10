/- Walks: the set of all acts; is a state one; the acts that may follow, or come first. (Printed by mk_prgo.py.) -/
import Derived.Test.YtcnidhcdkbfpcaaPrgN
namespace Go.Pg
open Go.RowKit Go.Bs Go.Pl
def folTo (s : Sh) (x : St) (c : Nat) : List Nx := ((List.range c).filter (s.may x)).map (s.nx x)
theorem folTo_hit {s : Sh} {x : St} {c : Nat} (h : s.may x c = true) : folTo s x (c + 1) = folTo s x c ++ [s.nx x c] := by
  unfold folTo; rw [List.range_succ, List.filter_append, List.map_append]; simp [h]
theorem folTo_miss {s : Sh} {x : St} {c : Nat} (h : s.may x c = false) : folTo s x (c + 1) = folTo s x c := by
  unfold folTo; rw [List.range_succ, List.filter_append, List.map_append]; simp [h]
theorem folTo_len (s : Sh) (x : St) (c : Nat) : (folTo s x c).length ≤ c := by
  unfold folTo; rw [List.length_map]; exact Nat.le_trans (List.length_filter_le _ _) (by simp)
theorem folTo_end (s : Sh) (x : St) : folTo s x s.acts.length = s.fol x := rfl
def firTo (s : Sh) (c : Nat) : List Nat := (List.range c).filter s.first
theorem firTo_hit {s : Sh} {c : Nat} (h : s.first c = true) : firTo s (c + 1) = firTo s c ++ [c] := by
  unfold firTo; rw [List.range_succ, List.filter_append]; simp [h]
theorem firTo_miss {s : Sh} {c : Nat} (h : s.first c = false) : firTo s (c + 1) = firTo s c := by
  unfold firTo; rw [List.range_succ, List.filter_append]; simp [h]
theorem firTo_len (s : Sh) (c : Nat) : (firTo s c).length ≤ c := by
  unfold firTo; exact Nat.le_trans (List.length_filter_le _ _) (by simp)
def stC (x : St) : List Value := [.int .u16 x.set, .int .i64 x.last, .int .i64 x.sec]
/-- a state of a show -/
structure StOk (s : Sh) (x : St) : Prop where
  set : x.set < 2 ^ s.acts.length
  last : x.last < s.acts.length
  sec : x.sec < s.acts.length
theorem StOk.lt {s : Sh} {x : St} (h : StOk s x) (hok : s.Ok) : x.set < 65536 := Nat.lt_of_lt_of_le h.set (show 2 ^ s.acts.length ≤ 2 ^ 16 from Nat.pow_le_pow_right (by omega) (by have := hok.n8; omega))
theorem StOk.to {s : Sh} {x : St} {c : Nat} (h : StOk s x) (hc : c < s.acts.length) : StOk s (Sh.to x c) := ⟨or_lt h.set hc, hc, h.last⟩
theorem StOk.fol {s : Sh} {x : St} {y : Nx} (h : StOk s x) (hy : y ∈ s.fol x) : StOk s y.st := by
  obtain ⟨c, h1, -, rfl⟩ := Sh.fol_mem hy
  exact h.to h1
theorem StOk.one {s : Sh} {a : Nat} (h : a < s.acts.length) : StOk s (Sh.one a) := ⟨Sh.one_lt h, h, h⟩
theorem pow16 {a : Nat} (ha : a < 16) : IntKind.u16.wrap ((2 : Int) ^ a) = ((2 ^ a : Nat) : Int) := by
  have h2 : 2 ^ a < 65536 := Nat.lt_of_le_of_lt (Nat.pow_le_pow_right (by omega) (show a ≤ 15 by omega)) (by decide)
  rw [IntKind.wrap_u16, show ((2 : Int) ^ a) = ((2 ^ a : Nat) : Int) by norm_cast]
  exact Int.emod_eq_of_lt (Int.natCast_nonneg _) (show ((2 ^ a : Nat) : Int) < ((65536 : Nat) : Int) from Int.ofNat_lt.2 h2)
end Go.Pg
namespace Go.Proofs.Ytcnidhcdkbfpcaa
open Go.RowKit Go.Bs Go.Pg Go.Pl Go.Sort
theorem et113 : ElemT Try.prog 113 117 5 40 := ElemT.mk (z := .agg #[.int .i64 0, .int .i64 0, .int .u16 0, .int .i64 0, .int .i64 0]) Try.underlying113 (by kernel_rfl) rfl
theorem whole_any (s : Sh) (p : ShP) (w : World) (hn : s.acts.length ≤ 8) : Calls Try.prog 46 #[shV s p] w fun e w' => e = .returned (.int .u16 s.whole) ∧ Below w.heap.size w w' := by
  have hb0 := ext_alloc w (.cells (shC s p).toArray 35)
  have hS := Blk.new w 35 (shC s p)
  have hr : IntKind.u16.wrap (IntKind.u16.wrap ((2 : Int) ^ s.acts.length) - 1) = (s.whole : Int) := by
    have h1 := Nat.two_pow_pos s.acts.length
    have h2 : 2 ^ s.acts.length ≤ 256 := Nat.pow_le_pow_right (n := 2) (by omega) (show s.acts.length ≤ 8 from hn)
    rw [pow16 (by omega), IntKind.wrap_u16]
    unfold Sh.whole
    omega
  generalize s.whole = wh at *
  unfold shV at *
  unfold shC at *
  go_enter Try.func46, Try.ntmps46
  go_upto_region 1 with fail
  generalize w.alloc (.cells #[.slice p.A s.acts.length p.cA, .slice p.R s.rest.length p.cR, .slice p.I s.ins.length p.cI, .slice p.O s.outs.length p.cO, .int .i64 s.cover, .int .i64 s.dull, .slice p.B s.before.length p.cB] 35) = W0 at *
  have x0 : W0.cell? ⟨w.heap.size, 0, none⟩ = _ := hS.cell rfl
  clear hS
  generalize s.acts.length = n at *
  go_wp2
  go_ret
  exact ⟨rfl, hb0⟩
theorem real_any (s : Sh) (x : St) (w : World) (h : StOk s x) (hok : s.Ok) : Calls Try.prog 47 #[St.val x] w fun e w' => e = .returned (.bool (Sh.real x)) ∧ Below w.heap.size w w' := by
  have hs := h.lt hok
  have hn8 := hok.n8
  have hl := h.last
  have hc := h.sec
  have hb0 := ext_alloc w (.cells (stC x).toArray 90)
  have hX := Blk.new w 90 (stC x)
  obtain ⟨set, last, sec⟩ := x
  simp only at hs hl hc
  unfold St.val Sh.real
  unfold stC at *
  simp only at *
  have h1 := bit16 set last hs
  have h2 := bit16 set sec hs
  have h3 := pow16 (a := last) (by omega)
  clear h
  go_enter Try.func47, Try.ntmps47
  go_upto_region 1 with fail
  generalize w.alloc (.cells #[.int .u16 set, .int .i64 last, .int .i64 sec] 90) = W0 at *
  refine Dr.wp_region_plan 7 [] (.q [0, 1, 2, 3, 4, 5, 6] .done) (by kernel_rfl) (by kernel_rfl) ?_
  have hb1 := hb0.drew
  have hX1 := hX.ext (ext_drew W0)
  clear hb0 hX
  generalize World.drew _ = W at *
  have q0 := Dr.cell0 (hX1.cell (i := 0) rfl)
  have q1 := Dr.cell0 (hX1.cell (i := 1) rfl)
  refine Dr.plan_q (l := [_, _, _, _, _, _, _]) rfl (fun K hK => ?_)
  iterate 7 (go_big_quiet_step (fail))
  refine wpQuiet_nil (hK _ ?_); clear hK K
  refine Dr.plan_end rfl ?_
  clear q0 q1
  have x0 : W.cell? ⟨w.heap.size, 0, none⟩ = _ := hX1.cell (i := 0) rfl
  have x1 : W.cell? ⟨w.heap.size, 1, none⟩ = _ := hX1.cell (i := 1) rfl
  have x2 : W.cell? ⟨w.heap.size, 2, none⟩ = _ := hX1.cell (i := 2) rfl
  cases hb : set.testBit last
  · rw [hb] at h1
    simp only [Bool.false_eq_true, if_false] at h1
    go_wp2
    go_ret
    exact ⟨by simp [hb], hb1⟩
  · rw [hb] at h1
    simp only [if_true] at h1
    cases hb' : set.testBit sec
    · rw [hb'] at h2
      simp only [Bool.false_eq_true, if_false] at h2
      go_wp2
      go_ret
      exact ⟨by simp [hb'], hb1⟩
    · rw [hb'] at h2
      simp only [if_true] at h2
      have H1 := Lib.hid hb
      have H2 := Lib.hid hb'
      clear hb hb'
      have hv : (((set : Int) == (2 : Int) ^ last) == ((last : Int) == (sec : Int))) = (set.testBit last && set.testBit sec && (decide (set = 2 ^ last) == decide (last = sec))) := by
        rw [H1.out, H2.out, Bool.true_and, Bool.true_and]
        have e1 : ((set : Int) == (2 : Int) ^ last) = decide (set = 2 ^ last) := by
          rw [show ((2 : Int) ^ last) = ((2 ^ last : Nat) : Int) by norm_cast]
          rw [Bool.eq_iff_iff]; simp only [beq_iff_eq, decide_eq_true_eq]; omega
        have e2 : ((last : Int) == (sec : Int)) = decide (last = sec) := by
          rw [Bool.eq_iff_iff]; simp only [beq_iff_eq, decide_eq_true_eq]; omega
        rw [e1, e2]
      have Hv := Lib.hid hv
      clear hv
      go_wp2
      go_ret
      exact ⟨ret_congr (bool_congr Hv.out), hb1⟩
end Go.Proofs.Ytcnidhcdkbfpcaa

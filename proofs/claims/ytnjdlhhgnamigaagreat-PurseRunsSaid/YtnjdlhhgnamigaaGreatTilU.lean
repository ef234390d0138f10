/- Walk: the tables of a till (a range over slices.Backward). -/
import Derived.RangeFuncNested
import Derived.RangeFuncBound
import Derived.RangeFuncCalls
import Derived.RangeFuncLeaves
import Derived.OwnWalkIn
import Derived.TacticsInMore
import Derived.LoopNIn
import Derived.LoopIn
import Derived.Sort.CutIn
import Derived.Test.YtnjdlhhgnamigaaGreatTilT
import Derived.Test.YtnjdlhhgnamigaaGreatTooA
namespace Go.Bs
open Go.RowKit Go.Pl Go.Sort
/-- a number of a node -/
abbrev Ix (n : Nat) := { x : Nat // x < n }
/-- the k numbers that come first, from the greatest on -/
def backs (n : Nat) : (k : Nat) → k ≤ n → List (Ix n)
  | 0, _ => []
  | k + 1, h => backs n k (by omega) ++ [⟨n - 1 - k, by omega⟩]
theorem backs_len (n : Nat) : ∀ k h, (backs n k h).length = k
  | 0, _ => rfl
  | k + 1, h => by simp [backs, backs_len n k]

/-- What a round keeps: what lay below n₀, and the box Bs. -/
def Kept (n₀ Bs : Nat) (X Y : World) : Prop := Below n₀ X Y ∧ Y.cell? ⟨Bs, 0, none⟩ = X.cell? ⟨Bs, 0, none⟩
theorem Kept.trans {n₀ Bs : Nat} {X Y Z : World} (h : Kept n₀ Bs X Y) (k : Kept n₀ Bs Y Z) : Kept n₀ Bs X Z := ⟨h.1.trans k.1, k.2.trans h.2⟩
theorem Kept.put {n₀ Bs : Nat} {w : World} (hn : n₀ ≤ w.heap.size) (hB : Bs < w.heap.size) (W : World) (l : Nat) (o o' : Obj) (hl : w.heap.size ≤ l) (h : W.heap[l]? = some o) (hc : o.isCells = false) (hw : o.isWalk = false) : Kept n₀ Bs W (W.putObj l o') := by
  refine ⟨belowK_b hn W l o o' hl h hc hw, ?_⟩
  have hne : Bs ≠ l := by omega
  simp [World.cell?, World.putObj, Ne.symm hne]

/-- How far a round has come. -/
structure Rnd (B n₀ Bs : Nat) (W W' : World) : Prop where
  kf : KeepsFrom B W W'
  kp : Kept n₀ Bs W W'
  sz : W.heap.size ≤ W'.heap.size
theorem Rnd.refl (B n₀ Bs : Nat) (W : World) : Rnd B n₀ Bs W W := ⟨KeepsFrom.refl _ _, ⟨Below.refl _ _, rfl⟩, Nat.le_refl _⟩
theorem Rnd.ext {B n₀ Bs : Nat} {W W' W'' : World} (h : Rnd B n₀ Bs W W') (hb : Below W'.heap.size W' W'') (h1 : n₀ ≤ W.heap.size) (h2 : Bs < W.heap.size) : Rnd B n₀ Bs W W'' :=
  ⟨h.kf.trans ⟨hb.size, fun k _ _ hk _ => (hb.block k (Array.getElem?_eq_some_iff.1 hk).1).trans hk⟩,
   h.kp.trans ⟨hb.mono (Nat.le_trans h1 h.sz), hb.cell (p := ⟨Bs, 0, none⟩) (Nat.lt_of_lt_of_le h2 h.sz)⟩, Nat.le_trans h.sz hb.size⟩
theorem Rnd.setCell {B n₀ Bs : Nat} {W W' : World} {p : Addr} (h : Rnd B n₀ Bs W W') (h1 : n₀ ≤ p.block) (h2 : Bs ≠ p.block) (u : Value) : Rnd B n₀ Bs W (W'.setCell p u) := by
  refine ⟨h.kf.trans ((KeepsOthers.setCell _ _ _).from _), h.kp.trans ⟨(Below.refl _ _).setCell h1 _, ?_⟩, ?_⟩
  · have hh : (W'.setCell p u).heap[Bs]? = W'.heap[Bs]? := Below.heap_setCell W' p u Bs h2
    simp [World.cell?, hh]
  · have := h.sz
    simpa [World.setCell] using this
theorem Blk.kept {W W' : World} {B T : Nat} {cs : List Value} {row : Option Nat} (h : Blk W B T cs) (hg : W.grownBy W' row) (hr : ∀ r, row = some r → ∃ o : Obj, W.heap[r]? = some o ∧ o.isCells = false) : Blk W' B T cs :=
  (hg.block B h.lt (fun e => by
    obtain ⟨o, h1, h2⟩ := hr B e.symm
    rw [show W.heap[B]? = _ from h] at h1
    cases h1; cases h2)).trans h
theorem below_grown {n : Nat} {w W W' : World} {row : Option Nat} (h : Below n w W) (hn : n ≤ W.heap.size) (hg : W.grownBy W' row) (hr : ∀ k, row = some k → n ≤ k) : Below n w W' :=
  h.trans ⟨hg.os, hg.tape, hg.output, hg.size, fun k hk => hg.block k (by omega) (fun e => by have := hr k e.symm; omega)⟩
end Go.Bs
namespace Go.Proofs.YtnjdlhhgnamigaaGreat
open Go.RowKit Go.Bs Go.Pu Go.Pl Go.Sort

theorem backI_any (A : Option Addr) (n cap : Nat) (w : World) :
    Calls Tryz.prog 65 #[.slice A n cap] w fun e w' => e = .returned (.func (.func 87) #[] #[.pointer (some ⟨w.heap.size, 0, none⟩)]) ∧ w' = w.alloc (.cells #[.slice A n cap] 22) := by
  go_enter Tryz.func65, Tryz.ntmps65
  go_wp2
  go_ret
  exact ⟨rfl, rfl⟩
section
attribute [local go_sem] Oper.semAt_some
set_option maxRecDepth 100000 in
set_option maxHeartbeats 2000000 in
theorem backI_next (q : List Int) (F : Fence) (m : Nat) (h : F.fn 87) (hro : F.round = none) (hm : 1 ≤ m) (Bs n₀ n cap : Nat) (A : Option Addr) (hn : q.length = n) (hn9 : n ≤ 1000000000) (hA : ∀ k, A.map (·.block) = some k → k < n₀) (w : World)
    (hBs0 : w.cell? ⟨Bs, 0, none⟩ = some (.slice A n cap)) (hB0 : Bs < w.heap.size) (hc0 : Cells w A 1 encI q) :
    SeqNext F m Tryz.prog 87 #[.pointer (some ⟨Bs, 0, none⟩)] (fun x : Ix n => #[Value.int .i64 (x.1 : Int), Value.int .i64 (q.getD x.1 0)]) (Kept n₀ Bs) (fun ys => ys.length = n) (fun pre x => pre.length < n ∧ x.1 = n - 1 - pre.length) w := by
  intro l J W hW hY h0
  have hBs : W.cell? ⟨Bs, 0, none⟩ = _ := (hW.cell (p := ⟨Bs, 0, none⟩) hB0).trans hBs0
  have hc := hc0.ext hW
  clear hW hBs0 hB0 hc0
  refine callsIn_of_wp Tryz.func87 rfl h ?_ hro
  simp only [Tryz.ntmps87, List.size_toArray, List.length_cons, List.length_nil, Nat.reduceAdd, Nat.reduceSub, Array.replicate_succ, Array.replicate_zero, List.push_toArray, List.append_toArray, List.nil_append, List.cons_append]
  gi_wp2
  gi_loopw [3] (fun i wr => ∃ ys : List (Ix n), ys.length ≤ n ∧ ∃ x : Int, i = .int .i64 x ∧ x = (n : Int) - 1 - ys.length ∧ J ys wr ∧ Kept n₀ Bs W wr)
    (fun i _ => (intOf i + 1).toNat)
  case atStart => exact ⟨[], Nat.zero_le _, _, rfl, by simp, h0, ⟨Below.refl _ _, rfl⟩⟩
  case round =>
    obtain ⟨ys, hk, x, rfl, hx, hJs, hnx⟩ := hrel
    have hBs' := hnx.2.trans hBs
    by_cases hlt : ys.length < n
    · obtain ⟨j, rfl⟩ : ∃ j : Nat, x = j := ⟨n - 1 - ys.length, by omega⟩
      have hj : j = n - 1 - ys.length := by omega
      have hjlt : j < n := by omega
      have hjn : (j : Int) < n := by omega
      have hj0 : (0 : Int) ≤ j := by omega
      have hcw : Cells wr A 1 encI q := Cells.keep hc (fun p _ hp => hnx.1.cell (hA _ hp))
      have hjq : j < q.length := by omega
      obtain ⟨b, off, rfl, -, c0⟩ := hcw.at1 hjq rfl
      obtain ⟨fn, tmps, assign, body, hy, hR⟩ := hY ys ⟨j, hjlt⟩ wr hJs ⟨hlt, hj⟩
      have hgd : q.getD j 0 = q[j] := by simp [hjq]
      simp only [hgd] at hy
      have Hx := Lib.hid hx
      have Hj := Lib.hid hj
      clear hx hj hcw hgd
      generalize q[j] = y at *
      gi_wp2
      refine hR.mono ?_
      rintro e W3 ⟨rfl, hJ3, hk3⟩
      have HJ3 := Lib.hid hJ3
      clear hJ3
      gi_wp2
      go_roundw
      case rel => exact ⟨ys ++ [⟨j, hjlt⟩], by simp; omega, _, rfl, by rw [Hx.out]; simp; omega, HJ3.out, hnx.trans hk3⟩
      case measure => simp [intOf]
    · have hx1 : x = -1 := by omega
      subst hx1
      clear hx
      gi_wp2
      go_end0
      exact ⟨⟨_, rfl⟩, _, by omega, hJs⟩
end

theorem info27 : (Tryz.prog.info? 22).map (fun i => (i.zero, i.size, i.bytes)) = some (some (.slice none 0 0), 1, 24) := by kernel_rfl
theorem mk137 (n : Nat) (hn : n ≤ 1000000) (w : World) :
    (Instr.makeSlice 90 (.int .i64 (n : Int)) (.int .i64 (n : Int))).run Tryz.prog w = .ok (.slice (some ⟨w.heap.size, 0, none⟩) n n) (w.alloc (.cells (List.replicate n (Value.slice none 0 0)).toArray 22)) := by
  obtain ⟨i0, hi, hz0, hz1, hz2⟩ := info_parts info27
  have hr := run_make (P := Tryz.prog) w 90 22 i0 _ Tryz.underlying90 hi hz0 .i64 .i64 (n : Int) (n : Int) (by omega) (by omega) (by rw [hz2]; omega) (by omega)
  rw [hr, hz1]
  simp only [Int.toNat_natCast]
  refine congrArg (fun c => Result.ok (Value.slice (some ⟨w.heap.size, 0, none⟩) n n) (w.alloc (.cells c 22))) ?_
  apply Array.ext
  · simp [size_madeCells]
  · intro j h2 h3
    simp [madeCells, Value.cells, Nat.mod_one]

/-- what stands in memory while the tables are filled: the last k + 1 rows -/
structure TbI (t : Tl) (s : Nat) (W : World) (A B : Option Addr) (n c d most k : Nat) : Prop where
  sz : s + 6 ≤ W.heap.size
  bt : Blk W s 59 [.slice A n c, .slice B n d]
  bm : Blk W (s + 1) 3 [.int .i64 most]
  bo : Blk W (s + 3) 90 [.slice (some ⟨s + 2, 0, none⟩) (n + 1) (n + 1)]
  bf : Blk W (s + 5) 122 [.func (.func 64) #[] #[.pointer (some ⟨s + 1, 0, none⟩), .pointer (some ⟨s, 0, none⟩), .pointer (some ⟨s + 3, 0, none⟩)]]
  rw : ∃ rows : List Value, rows.length = n + 1 ∧ Blk W (s + 2) 22 rows ∧ ∀ j, n ≤ j + k → j ≤ n → ∃ g, rows[j]? = some (.slice (some ⟨g, 0, none⟩) (most + 1) (most + 1)) ∧ IArr W g 3 (tab (most + 1) (t.row j)) ∧ s + 3 < g
section
variable {t : Tl} {s : Nat} {W W' : World} {A B : Option Addr} {n c d most k : Nat}
theorem TbI.ext (h : TbI t s W A B n c d most k) (hb : Below W.heap.size W W') : TbI t s W' A B n c d most k := by
  obtain ⟨rows, h1, h2, h3⟩ := h.rw
  exact ⟨Nat.le_trans h.sz hb.size, h.bt.ext hb, h.bm.ext hb, h.bo.ext hb, h.bf.ext hb, rows, h1, h2.ext hb, fun j ha hc => by obtain ⟨g, g1, g2, g3⟩ := h3 j ha hc; exact ⟨g, g1, g2.ext hb, g3⟩⟩
theorem TbI.grown {row : Option Nat} (h : TbI t s W A B n c d most k) (hg : W.grownBy W' row) (hr : ∀ r, row = some r → ∃ o : Obj, W.heap[r]? = some o ∧ o.isCells = false) : TbI t s W' A B n c d most k := by
  obtain ⟨rows, h1, h2, h3⟩ := h.rw
  exact ⟨Nat.le_trans h.sz hg.size, Blk.kept h.bt hg hr, Blk.kept h.bm hg hr, Blk.kept h.bo hg hr, Blk.kept h.bf hg hr, rows, h1, Blk.kept h2 hg hr, fun j ha hc => by obtain ⟨g, g1, g2, g3⟩ := h3 j ha hc; exact ⟨g, g1, Blk.kept g2 hg hr, g3⟩⟩
end
theorem st_func (P : Program) (w : World) (a : Addr) (m : Mode) (fn : Fn) (first captured : Array Value) : (store a (.func fn first captured) m).run P w = stored P w a (.func fn first captured) m := run_store P w a _ m rfl
def row0 (j : Nat) : Int := if j = 0 then 0 else 401

attribute [local go_sem] Oper.semAt_some st_func
set_option maxRecDepth 100000 in
set_option maxHeartbeats 4000000 in
theorem tables_any (t : Tl) (hok : t.ok) (A B : Option Addr) (n c d most : Nat) (w : World) (hn : t.vals.length = n) (hmost : most ≤ 5000)
    (hA : Cells w A 1 encI t.vals) (hB : Cells w B 1 encI t.cnts) :
    Calls Tryz.prog 42 #[tlV A n c B n d, .int .i64 most] w fun e w' => ∃ O rows, e = .returned (.slice (some ⟨O, 0, none⟩) (n + 1) (n + 1)) ∧ rows.length = n + 1 ∧ Blk w' O 22 rows ∧
      (∀ j, j ≤ n → ∃ v, rows[j]? = some v ∧ RowV w' t (most + 1) j v) ∧ Below w.heap.size w w' := by
  have hn8 : 1 ≤ n ∧ n ≤ 8 := by have := hok.len; omega
  have hmk := fun w => mk137 (n + 1) (by omega) w
  have hmk2 := fun w => mk27n (most + 1) (by omega) w
  simp only [Int.natCast_add, Int.natCast_one] at hmk hmk2
  have Hok := Lib.hid hok
  have Hn := Lib.hid hn
  clear hok hn
  unfold tlV
  have hAlt : ∀ q, A.map (·.block) = some q → q < w.heap.size := fun q hq => by
    obtain ⟨b, off, e, hlt, -⟩ := hA.at1 (k := 0) (by rw [Hn.out]; omega) rfl
    subst e; simp at hq; subst hq; exact hlt
  have hb0 : Below w.heap.size w ((w.alloc (.cells #[.slice A n c, .slice B n d] 59)).alloc (.cells #[.int .i64 most] 3)) := ((Below.refl _ _).alloc (Nat.le_refl _) _).alloc (by simp) _
  have hT : Blk ((w.alloc (.cells #[.slice A n c, .slice B n d] 59)).alloc (.cells #[.int .i64 most] 3)) w.heap.size 59 _ := (Blk.new w 59 [.slice A n c, .slice B n d]).alloc _
  have hM : Blk ((w.alloc (.cells #[.slice A n c, .slice B n d] 59)).alloc (.cells #[.int .i64 most] 3)) (w.heap.size + 1) 3 [.int .i64 most] := by
    have := Blk.new (w.alloc (.cells #[.slice A n c, .slice B n d] 59)) 3 [.int .i64 most]
    simpa using this
  have hsz : ((w.alloc (.cells #[.slice A n c, .slice B n d] 59)).alloc (.cells #[.int .i64 most] 3)).heap.size = w.heap.size + 2 := by simp
  refine (callsIn_wide (n := 20)).1 (callsIn_of_wp_marks Tryz.func42 rfl trivial ?_)
  simp only [Tryz.ntmps42, List.size_toArray, List.length_cons, List.length_nil, Nat.reduceAdd, Nat.reduceSub, Array.replicate_succ, Array.replicate_zero, List.push_toArray, List.append_toArray, List.nil_append, List.cons_append]
  refine wpIn_wide.2 ?_
  go_upto_region 1 with fail
  generalize (w.alloc (.cells #[.slice A n c, .slice B n d] 59)).alloc (.cells #[.int .i64 most] 3) = W0 at *
  have x0 : W0.cell? ⟨w.heap.size, 0, none⟩ = _ := hT.cell rfl
  go_upto_region 2 with fail
  clear hmk x0
  have hb1 : Below w.heap.size w ((W0.alloc (.cells (Array.replicate (n + 1) (Value.slice none 0 0)) 22)).alloc (.cells #[.slice (some ⟨w.heap.size + 2, 0, none⟩) (n + 1) (n + 1)] 90)) := (hb0.alloc (by omega) _).alloc (by simp; omega) _
  have hR := (Blk.new W0 22 (List.replicate (n + 1) (Value.slice none 0 0))).alloc (.cells #[.slice (some ⟨w.heap.size + 2, 0, none⟩) (n + 1) (n + 1)] 90)
  have hO := Blk.new (W0.alloc (.cells (Array.replicate (n + 1) (Value.slice none 0 0)) 22)) 90 [.slice (some ⟨w.heap.size + 2, 0, none⟩) (n + 1) (n + 1)]
  rw [World.size_alloc, hsz] at hO
  rw [hsz] at hR
  have hT1 := (hT.alloc (.cells (Array.replicate (n + 1) (Value.slice none 0 0)) 22)).alloc (.cells #[.slice (some ⟨w.heap.size + 2, 0, none⟩) (n + 1) (n + 1)] 90)
  have hM1 := (hM.alloc (.cells (Array.replicate (n + 1) (Value.slice none 0 0)) 22)).alloc (.cells #[.slice (some ⟨w.heap.size + 2, 0, none⟩) (n + 1) (n + 1)] 90)
  have hsz1 : ((W0.alloc (.cells (Array.replicate (n + 1) (Value.slice none 0 0)) 22)).alloc (.cells #[.slice (some ⟨w.heap.size + 2, 0, none⟩) (n + 1) (n + 1)] 90)).heap.size = w.heap.size + 4 := by simp [hsz]
  rw [show (List.replicate (n + 1) (Value.slice none 0 0)).toArray = Array.replicate (n + 1) (Value.slice none 0 0) by simp] at hR
  clear hb0 hT hM hsz
  change Blk ((W0.alloc (.cells (Array.replicate (n + 1) (Value.slice none 0 0)) 22)).alloc (.cells #[.slice (some ⟨w.heap.size + 2, 0, none⟩) (n + 1) (n + 1)] 90)) _ _ _ at hO
  generalize (W0.alloc (.cells (Array.replicate (n + 1) (Value.slice none 0 0)) 22)).alloc (.cells #[.slice (some ⟨w.heap.size + 2, 0, none⟩) (n + 1) (n + 1)] 90) = W1 at *
  have m0 : W1.cell? ⟨w.heap.size + 1, 0, none⟩ = _ := hM1.cell rfl
  go_upto_region 3 with fail
  clear hmk2 m0
  have hG : IArr (W1.alloc (.cells ((tab (most + 1) fun _ => 0).map (Value.int .i64)).toArray 3)) W1.heap.size 3 (parN (most + 1) row0 1) := by
    have h0 : parN (most + 1) row0 1 = tab (most + 1) fun _ => 0 := by
      unfold parN
      refine tab_congr (fun i hi => ?_)
      by_cases h : i = 0
      · subst h; rfl
      · rw [if_neg (by omega)]
    rw [h0]; exact Blk.new W1 3 _
  have hb2 : Dr.Bel [w.heap.size + 4] W1 (W1.alloc (.cells ((tab (most + 1) fun _ => 0).map (Value.int .i64)).toArray 3)) := Dr.Bel.of (ext_alloc _ _)
  have hsz2 : (W1.alloc (.cells ((tab (most + 1) fun _ => 0).map (Value.int .i64)).toArray 3)).heap.size = w.heap.size + 5 := by simp [hsz1]
  rw [hsz1] at hG

  generalize W1.alloc (.cells ((tab (most + 1) fun _ => 0).map (Value.int .i64)).toArray 3) = W2 at *
  go_wp2
  go_loopw [7] (fun x wr => ∃ a : Nat, x = .int .i64 a ∧ 1 ≤ a ∧ a ≤ most + 1 ∧ IArr wr (w.heap.size + 4) 3 (parN (most + 1) row0 a) ∧ Dr.Bel [w.heap.size + 4] W1 wr ∧ Hid (wr.heap.size = w.heap.size + 5)) (fun x _ => most + 1 - (intOf x).toNat)
  case atStart => exact ⟨1, rfl, by omega, by omega, hG, hb2, Lib.hid hsz2⟩
  case round =>
    clear hG hb2
    obtain ⟨a, rfl, ha1, ha, hG, hb, hszr⟩ := hrel
    have hMr := hb.blk hM1 (by simp)
    have m0 : wr.cell? ⟨w.heap.size + 1, 0, none⟩ = _ := hMr.cell rfl
    by_cases hlt : a < most + 1
    · have hlt' : (a : Int) ≤ (most : Int) := by omega
      have c0 : wr.cell? ⟨w.heap.size + 4, a, none⟩ = _ := hG.cell (parN_get _ hlt)
      have f0 := hG.free a
      have hG2 := hG.set a 401
      have hr0 : row0 a = 401 := by unfold row0; rw [if_neg (by omega)]
      rw [← hr0, parN_set, hr0] at hG2
      clear hr0
      go_wp2
      go_roundw
      case rel => exact ⟨a + 1, by go_num, by omega, by omega, hG2, hb.put (by simp) _, Lib.hid (by simpa [World.setCell] using hszr.out)⟩
      case measure => simp [intOf]; omega
    · obtain rfl : a = most + 1 := by omega
      rw [parN_full] at hG
      have hTr := hb.blk hT1 (by simp)
      have hOr := hb.blk hO (by simp)
      have hRr := hb.blk hR (by simp)
      have hbw : Below w.heap.size w wr := hb1.trans (hb.old (by omega) (by simp))
      have hlt' : ¬ ((most + 1 : Nat) : Int) ≤ (most : Int) := by omega
      clear hb hT1 hO hR hb1 hsz2 hlt
      have t0 : wr.cell? ⟨w.heap.size, 0, none⟩ = _ := hTr.cell rfl
      have o0 : wr.cell? ⟨w.heap.size + 2 + 1, 0, none⟩ = _ := hOr.cell rfl
      have r0 : wr.cell? ⟨w.heap.size + 2, n, none⟩ = _ := hRr.cell (i := n) (v := .slice none 0 0) (by simp)
      have f0 := hRr.free n
      go_upto_region 8 with fail
      have hR2 := hRr.set n (.slice (some ⟨w.heap.size + 4, 0, none⟩) (most + 1) (most + 1))
      have hT2 := hTr.other (p := ⟨w.heap.size + 2, n, none⟩) (by simp) (.slice (some ⟨w.heap.size + 4, 0, none⟩) (most + 1) (most + 1))
      have hM2 := hMr.other (p := ⟨w.heap.size + 2, n, none⟩) (by simp) (.slice (some ⟨w.heap.size + 4, 0, none⟩) (most + 1) (most + 1))
      have hO2 := hOr.other (p := ⟨w.heap.size + 2, n, none⟩) (by simp) (.slice (some ⟨w.heap.size + 4, 0, none⟩) (most + 1) (most + 1))
      have hG2 : IArr _ _ _ _ := hG.other (p := ⟨w.heap.size + 2, n, none⟩) (by simp) (.slice (some ⟨w.heap.size + 4, 0, none⟩) (most + 1) (most + 1))
      have hbw2 : Below w.heap.size w _ := hbw.setCell (p := ⟨w.heap.size + 2, n, none⟩) (by simp) (.slice (some ⟨w.heap.size + 4, 0, none⟩) (most + 1) (most + 1))
      have hsz2 : (wr.setCell ⟨w.heap.size + 2, n, none⟩ (.slice (some ⟨w.heap.size + 4, 0, none⟩) (most + 1) (most + 1))).heap.size = w.heap.size + 5 := by simpa [World.setCell] using hszr.out
      clear t0 o0 r0 f0 hTr hMr hOr hRr hG hbw hszr m0
      generalize wr.setCell ⟨w.heap.size + 2, n, none⟩ (.slice (some ⟨w.heap.size + 4, 0, none⟩) (most + 1) (most + 1)) = W3 at *
      go_upto_region 9 with fail
      have hF := Blk.new W3 122 [.func (.func 64) #[] #[.pointer (some ⟨w.heap.size + 1, 0, none⟩), .pointer (some ⟨w.heap.size, 0, none⟩), .pointer (some ⟨w.heap.size + 3, 0, none⟩)]]
      rw [hsz2] at hF
      have hI : TbI t w.heap.size (W3.alloc (.cells #[.func (.func 64) #[] #[.pointer (some ⟨w.heap.size + 1, 0, none⟩), .pointer (some ⟨w.heap.size, 0, none⟩), .pointer (some ⟨w.heap.size + 3, 0, none⟩)]] 122)) A B n c d most 0 := by
        refine ⟨by simp [hsz2], hT2.alloc _, hM2.alloc _, hO2.alloc _, hF, _, by simp, hR2.alloc _, fun j h1 h2 => ?_⟩
        obtain rfl : j = n := by omega
        have hrn : t.row j = row0 := by funext a; rw [← Hn.out, Tl.row_end]; rfl
        rw [hrn]
        exact ⟨w.heap.size + 4, by simp, IArr.ext hG2 (ext_alloc _ _), by omega⟩
      have hbw3 : Below w.heap.size w (W3.alloc (.cells #[.func (.func 64) #[] #[.pointer (some ⟨w.heap.size + 1, 0, none⟩), .pointer (some ⟨w.heap.size, 0, none⟩), .pointer (some ⟨w.heap.size + 3, 0, none⟩)]] 122)) := hbw2.alloc (by omega) _
      have hsz3 : (W3.alloc (.cells #[.func (.func 64) #[] #[.pointer (some ⟨w.heap.size + 1, 0, none⟩), .pointer (some ⟨w.heap.size, 0, none⟩), .pointer (some ⟨w.heap.size + 3, 0, none⟩)]] 122)).heap.size = w.heap.size + 6 := by simp [hsz2]
      clear hF hT2 hM2 hO2 hR2 hG2 hbw2 hsz2 hM1 hlt'
      change TbI t w.heap.size (W3.alloc (.cells #[.func (.func 64) #[] #[.pointer (some ⟨w.heap.size + 1, 0, none⟩), .pointer (some ⟨w.heap.size, 0, none⟩), .pointer (some ⟨w.heap.size + 2 + 1, 0, none⟩)]] 122)) A B n c d most 0 at hI
      change Below w.heap.size w (W3.alloc (.cells #[.func (.func 64) #[] #[.pointer (some ⟨w.heap.size + 1, 0, none⟩), .pointer (some ⟨w.heap.size, 0, none⟩), .pointer (some ⟨w.heap.size + 2 + 1, 0, none⟩)]] 122)) at hbw3
      change (W3.alloc (.cells #[.func (.func 64) #[] #[.pointer (some ⟨w.heap.size + 1, 0, none⟩), .pointer (some ⟨w.heap.size, 0, none⟩), .pointer (some ⟨w.heap.size + 2 + 1, 0, none⟩)]] 122)).heap.size = w.heap.size + 6 at hsz3
      generalize W3.alloc (.cells #[.func (.func 64) #[] #[.pointer (some ⟨w.heap.size + 1, 0, none⟩), .pointer (some ⟨w.heap.size, 0, none⟩), .pointer (some ⟨w.heap.size + 2 + 1, 0, none⟩)]] 122) = W4 at *
      have t0 : W4.cell? ⟨w.heap.size, 0, none⟩ = _ := hI.bt.cell rfl
      go_wp2_with fail
      refine (backI_any A n c _).mono ?_; rintro e W5 ⟨rfl, hW5⟩
      have hI5 : TbI t w.heap.size W5 A B n c d most 0 := by rw [hW5]; exact hI.ext (ext_alloc _ _)
      have hbw5 : Below w.heap.size w W5 := by rw [hW5]; exact hbw3.alloc (by omega) _
      have hsz5 : W5.heap.size = w.heap.size + 7 := by rw [hW5]; simp [hsz3]
      have hx5 : W5.cell? ⟨w.heap.size + 6, 0, none⟩ = some (.slice A n c) := by rw [hW5, ← hsz3]; simp
      rw [hsz3]
      clear hI hbw3 hW5 hsz3 t0
      go_wp2
      generalize ha : Act.mk _ _ = a0
      refine wpIn_wide.1 (range_next (F := Fence.wide) (n := 20) rfl (by omega) (gf := 87) (lb := #[.pointer (some ⟨w.heap.size + 6, 0, none⟩)]) (by rw [← ha]; rfl) trivial (enters_of Tryz.func87 (by kernel_rfl) rfl)
        (backI_next t.vals Fence.wide 19 trivial rfl (by omega) (w.heap.size + 6) w.heap.size n c A Hn.out (by omega) hAlt W5 hx5 (by omega) (hA.ext hbw5))
        (fun h k => h.trans k) (Kept.put (by omega) (by omega)) (fun _ => rfl)
        (fun pre W => TbI t w.heap.size W A B n c d most pre.length ∧ Below w.heap.size w W ∧ w.heap.size + 7 ≤ W.heap.size) ?own ⟨hI5, hbw5, by omega⟩
        (fun x a' W => a' = { tmps := ((a0.tmps.setIfInBounds 36 (.int .i64 (x.1 : Int))).setIfInBounds 37 (.int .i64 (t.vals.getD x.1 0))).setIfInBounds 9 (.int .i64 (x.1 : Int)), defers := [] })
        (fun x a' _ X Y row hs hg hr => hs)
        ?assign ?body ?done)
      case own =>
        rintro pre X Y row ⟨hs, hb, hz⟩ hg hr
        exact ⟨hs.grown hg (fun r e => (hr r e).2), below_grown hb (by omega) hg (fun k e => by have := (hr k e).1; omega), Nat.le_trans hz hg.size⟩
      case assign =>
        subst ha
        rintro l pre x W K ⟨hi, hb, hz⟩ hK
        gi_wp2
        exact hK _ _ (KeepsFrom.refl _ _) ⟨Below.refl _ _, rfl⟩ ⟨hi, hb, hz⟩ rfl
      case body =>
        subst ha
        rintro l pre x a' W hl ⟨hi, hb, hz⟩ rfl ⟨hx1, hx2⟩
        simp only [List.setIfInBounds_toArray, List.set_cons_succ, List.set_cons_zero]
        obtain ⟨rows, hrl, hR, hrows⟩ := hi.rw
        have hbt := hi.bt
        have hbm := hi.bm
        have hbo := hi.bo
        have hbf := hi.bf
        have hsz := hi.sz
        obtain ⟨g, hg1, hg2, hg3⟩ := hrows (x.1 + 1) (by omega) (by omega)
        have C := Lib.hid (fill_any t Hok.out A B n c d most x.1 (w.heap.size + 1) w.heap.size (w.heap.size + 3) (w.heap.size + 2) rows W Hn.out x.2 hmost (hA.ext hb) (hB.ext hb) hbm hbt hbo hR hrl _ hg1 ⟨g, rfl, hg2⟩)
        have f0 : W.cell? ⟨w.heap.size + 5, 0, none⟩ = _ := hbf.cell rfl
        have Hx2 := Lib.hid hx2
        clear hi hx2
        gi_wp2_with fail
        refine ⟨trivial, (Dr.callsF (F := Fence.wide.inRound l) (m := 17) rfl C.out).mono ?_⟩; rintro e W' ⟨rfl, g', k1, k2, k3, k4⟩
        gi_wp2
        have hx2 := Hx2.out
        have hlx : (pre ++ [x]).length = pre.length + 1 := by simp
        show KeepsFrom W5.heap.size W W' ∧ Kept w.heap.size (w.heap.size + 6) W W' ∧ TbI t w.heap.size W' A B n c d most (pre ++ [x]).length ∧ Below w.heap.size w W' ∧ w.heap.size + 7 ≤ W'.heap.size
        rw [hlx]
        have hsz' := k4.size
        refine ⟨⟨k4.size, fun k o hk h0 _ => (k4.block k (Array.getElem?_eq_some_iff.1 h0).1 (by simp; omega)).trans h0⟩,
          ⟨k4.old (by omega) (by simp), World.cell?_of_block (k4.block (w.heap.size + 6) (by omega) (by simp))⟩, ⟨by omega, k4.blk hbt (by simp), k4.blk hbm (by simp), k4.blk hbo (by simp), k4.blk hbf (by simp), _, by simpa using hrl, k3, fun j h1 h2 => ?_⟩, hb.trans (k4.old (by omega) (by simp)), by omega⟩
        by_cases hjx : j = x.1
        · subst hjx
          exact ⟨g', List.getElem?_set_self (by rw [hrl]; omega), k2, by omega⟩
        · obtain ⟨gj, p1, p2, p3⟩ := hrows j (by omega) h2
          exact ⟨gj, by rw [List.getElem?_set_ne (Ne.symm hjx)]; exact p1, k4.blk p2 (by simp; omega), p3⟩
      case done =>
        subst ha
        rintro D ys W hD hS ⟨hi, hb, hz⟩ hK
        rw [hS] at hi
        obtain ⟨rows, hrl, hR, hrows⟩ := hi.rw
        have o0 : W.cell? ⟨w.heap.size + 2 + 1, 0, none⟩ = _ := hi.bo.cell rfl
        clear hi hS
        go_wp2
        refine ⟨by simp, .inl ⟨_, _, rfl, run_takeDeferred hK, ?_⟩⟩
        have hrow : ∀ r, some D = some r → ∃ o : Obj, W.heap[r]? = some o ∧ o.isCells = false := fun r e => by cases e; exact ⟨_, hK, rfl⟩
        have p2 := Blk.kept hR (grownBy_putObj' W D (.deferred none)) hrow
        have p4 : Below w.heap.size w (W.putObj D (.deferred none)) := hb.trans (belowK_b (w := w) (Nat.le_refl _) W D _ _ (by omega) hK rfl rfl)
        refine ⟨.slice (some ⟨w.heap.size + 2, 0, none⟩) (n + 1) (n + 1), by simp [results, Tryz.results42, go_sem], w.heap.size + 2, rows, rfl, hrl, p2, fun j hj => ?_, p4⟩
        obtain ⟨g, g1, g2, g3⟩ := hrows j (by omega) hj
        exact ⟨_, g1, g, rfl, Blk.kept g2 (grownBy_putObj' W D (.deferred none)) hrow⟩
end Go.Proofs.YtnjdlhhgnamigaaGreat

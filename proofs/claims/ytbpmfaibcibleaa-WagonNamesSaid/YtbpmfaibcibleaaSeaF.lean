/- Walk: the first packing of a list. (Printed by mk_seaf.py.) -/
import Derived.Test.YtbpmfaibcibleaaSeaE
namespace Go.Wg
open Go.RowKit Go.Bs Go.Pl
def mkP (v : JbV) (ts : List Th) (l : List Int) (A : Option Addr) (c : Nat) (ld : Bool) (S I M : Nat) : SeP := ⟨v, ts, l, A, c, ld, S, I, M, l.length⟩
theorem fit_lt {nl : Nat} {ld : Bool} : ∀ (ts : List Th) (left needs : List Int) (p : List Nat), fitP nl ld ts left needs p → ∀ i ∈ p, i < nl
  | [], _, _, [], _ => by simp
  | [], _, _, _ :: _, h => h.elim
  | _ :: _, _, _, [], h => h.elim
  | t :: r, left, needs, k :: q, h => by
    intro i hi
    rcases List.mem_cons.1 hi with rfl | hi
    · exact h.1
    · exact fit_lt r _ _ q h.2.2 i hi
theorem set_same {α : Type} {l : List α} {k : Nat} {x : α} (h : l[k]? = some x) : l.set k x = l := by
  apply List.ext_getElem?
  intro i
  by_cases e : k = i
  · subst e; rw [List.getElem?_set_self (List.getElem?_eq_some_iff.1 h).1, h]
  · rw [List.getElem?_set_ne e]
theorem run_zero (n : Nat) : (tab n fun _ => 0).length = n := tab_len n _
/-- the rooms while they are laid -/
def padTo (l : List Int) (k : Nat) : List Int := (List.range 6).map fun i => if i < k then l.getD i 0 else 0
def firTo (k : Nat) : List Int := (List.range 6).map fun i => if i < k then 1000 else 0
theorem padTo_len (l : List Int) (k : Nat) : (padTo l k).length = 6 := by simp [padTo]
theorem firTo_len (k : Nat) : (firTo k).length = 6 := by simp [firTo]
theorem map6_set (f g : Nat → Int) (k : Nat) (v : Int) (hk : k < 6) (h1 : g k = v) (h2 : ∀ i, i ≠ k → g i = f i) : ((List.range 6).map f).set k v = (List.range 6).map g := by
  apply List.ext_getElem?
  intro i
  by_cases e : k = i
  · subst e; rw [List.getElem?_set_self (by simpa using hk)]; simp [hk, h1]
  · rw [List.getElem?_set_ne e]
    by_cases hi : i < 6
    · simp [hi, h2 i (Ne.symm e)]
    · simp [hi]
theorem padTo_succ (l : List Int) {k : Nat} (hk : k < 6) : (padTo l k).set k (l.getD k 0) = padTo l (k + 1) := by
  refine map6_set _ _ k _ hk (by simp) fun i hi => ?_
  by_cases h : i < k
  · rw [if_pos h, if_pos (by omega)]
  · rw [if_neg h, if_neg (by omega)]
theorem firTo_succ {k : Nat} (hk : k < 6) : (firTo k).set k 1000 = firTo (k + 1) := by
  refine map6_set _ _ k _ hk (by simp) fun i hi => ?_
  by_cases h : i < k
  · rw [if_pos h, if_pos (by omega)]
  · rw [if_neg h, if_neg (by omega)]
theorem padTo_end (l : List Int) : padTo l l.length = pad l := by
  unfold padTo pad
  apply List.map_congr_left
  intro i _
  split
  · rfl
  · simp [List.getD]; rw [List.getElem?_eq_none (by omega)]; rfl
theorem firTo_end (n : Nat) : firTo n = firstN n := rfl
theorem getD_map6 (f : Nat → Int) (i : Nat) : ((List.range 6).map f).getD i 0 = if i < 6 then f i else 0 := by
  by_cases h : i < 6 <;> simp [List.getD, h]
theorem start_ok {l : List Int} {n : Nat} (hl : ∀ x ∈ l, 1 ≤ x ∧ x ≤ 2000) : (⟨0, pad l, firstN l.length⟩ : Sta).Ok n := by
  refine ⟨by simp, by simp [pad], by simp [firstN], fun i => ?_, fun i => ?_⟩
  · show 0 ≤ (pad l).getD i 0 ∧ (pad l).getD i 0 ≤ 2000
    unfold pad
    rw [getD_map6]
    split
    · by_cases h : i < l.length
      · have := hl l[i] (List.getElem_mem h)
        simp [List.getD, h]; omega
      · simp [List.getD, h]
    · omega
  · show 0 ≤ (firstN l.length).getD i 0 ∧ (firstN l.length).getD i 0 ≤ 1000
    unfold firstN
    rw [getD_map6]
    split
    · split <;> omega
    · omega
theorem part_snoc {l : List Int} {q : List Nat} {k : Nat} (h1 : k < l.length) (h2 : k < q.length) (i : Nat) : part (l.take (k + 1)) (q.take (k + 1)) i = if q[k] = i then part (l.take k) (q.take k) i ++ [l[k]] else part (l.take k) (q.take k) i := by
  unfold part
  have e : ∀ m, (l.take m).zip (q.take m) = (l.zip q).take m := fun m => List.take_zipWith.symm
  rw [e, e, List.take_succ_eq_append_getElem (by simp; omega), List.filter_append, List.map_append]
  simp only [List.getElem_zip]
  by_cases h : q[k] = i
  · rw [if_pos h, List.filter_cons_of_pos (by simpa using h)]; rfl
  · rw [if_neg h, List.filter_cons_of_neg (by simpa using h)]; simp
/-- the rows after some things -/
def rowsTo (nl : Nat) (l : List Int) (q : List Nat) (k : Nat) : List (List Int) := (List.range nl).map (part (l.take k) (q.take k))
theorem rowsTo_len (nl : Nat) (l : List Int) (q : List Nat) (k : Nat) : (rowsTo nl l q k).length = nl := by simp [rowsTo]
theorem rowsTo_zero (nl : Nat) (l : List Int) (q : List Nat) : rowsTo nl l q 0 = List.replicate nl [] := by
  apply List.ext_getElem?
  intro i
  by_cases h : i < nl
  · simp [rowsTo, h, part]
  · simp [rowsTo, h]
theorem rowsTo_get {nl : Nat} {l : List Int} {q : List Nat} {k i : Nat} (h : i < nl) : (rowsTo nl l q k)[i]? = some (part (l.take k) (q.take k) i) := by simp [rowsTo, h]
theorem rowsTo_succ {nl : Nat} {l : List Int} {q : List Nat} {k : Nat} (h1 : k < l.length) (h2 : k < q.length) (h3 : q[k] < nl) : (rowsTo nl l q k).set q[k] (part (l.take k) (q.take k) q[k] ++ [l[k]]) = rowsTo nl l q (k + 1) := by
  apply List.ext_getElem?
  intro i
  by_cases e : q[k] = i
  · rw [← e, List.getElem?_set_self (by rw [rowsTo_len]; exact h3), rowsTo_get h3, part_snoc h1 h2, if_pos rfl]
  · rw [List.getElem?_set_ne e]
    by_cases hi : i < nl
    · rw [rowsTo_get hi, rowsTo_get hi, part_snoc h1 h2, if_neg e]
    · rw [List.getElem?_eq_none (by rw [rowsTo_len]; omega), List.getElem?_eq_none (by rw [rowsTo_len]; omega)]
theorem rowsTo_end (nl : Nat) (l : List Int) (q : List Nat) (h : q.length = l.length) : rowsTo nl l q l.length = (List.range nl).map (part l q) := by
  unfold rowsTo; rw [List.take_length, ← h, List.take_length]
theorem part_len_le (l : List Int) (q : List Nat) (i : Nat) : (part l q i).length ≤ l.length := by
  unfold part
  rw [List.length_map]
  have h1 := List.length_filter_le (fun x : Int × Nat => x.2 == i) (l.zip q)
  have h2 : (l.zip q).length ≤ l.length := by rw [List.length_zip]; omega
  omega
theorem part_mem {l : List Int} {q : List Nat} {i : Nat} {x : Int} (h : x ∈ part l q i) : x ∈ l := by
  unfold part at h
  obtain ⟨⟨a, b⟩, hy, rfl⟩ := List.mem_map.1 h
  exact (List.of_mem_zip (List.mem_filter.1 hy).1).1
/-- the rows, the first of them in order -/
def ordTo (ts : List Th) (P : List (List Int)) (k : Nat) : List (List Int) := (P.take k).map (sortL (needC ts)) ++ P.drop k
theorem ordTo_get {ts : List Th} {P : List (List Int)} {k : Nat} (h : k < P.length) : (ordTo ts P k)[k]? = some P[k] := by
  unfold ordTo
  rw [List.getElem?_append_right (by simp; omega)]
  simp [List.length_take, Nat.min_eq_left (Nat.le_of_lt h)]
theorem ordTo_len (ts : List Th) (P : List (List Int)) (k : Nat) : (ordTo ts P k).length = P.length := by
  unfold ordTo; simp; omega
theorem ordTo_succ {ts : List Th} {P : List (List Int)} {k : Nat} (h : k < P.length) : (ordTo ts P k).set k (sortL (needC ts) P[k]) = ordTo ts P (k + 1) := by
  unfold ordTo
  rw [List.set_append_right _ _ (by simp; omega), List.take_succ_eq_append_getElem h, List.map_append]
  simp [Nat.min_eq_left (Nat.le_of_lt h)]
  rw [List.drop_eq_getElem_cons h]; rfl
theorem ordTo_end (ts : List Th) (P : List (List Int)) : ordTo ts P P.length = P.map (sortL (needC ts)) := by
  unfold ordTo; simp
theorem laid_eq (ts : List Th) (nl : Nat) (l : List Int) (q : List Nat) : ((List.range nl).map (part l q)).map (sortL (needC ts)) = laid ts nl l q := by
  unfold laid; rw [List.map_map]; rfl
/-- where rows of the call's own lie -/
theorem RwJ.rows {b0 O : Nat} {W : World} {P : List (List Int)} {vs : List Value} (h : RwJ b0 W O P vs) : ∃ rs : List RwV, rows rs = P ∧ RwM W (some ⟨O, 0, none⟩) rs ∧ rs.length = P.length ∧ ∀ x ∈ rs, ∀ k, x.A.map (·.block) = some k → b0 ≤ k := by
  have key : ∀ i, i < P.length → ∃ x : RwV, vs[i]? = some x.val ∧ P[i]? = some x.r ∧ Cells W x.A 1 encI x.r ∧ x.r.length ≤ x.c ∧ ∀ k, x.A.map (·.block) = some k → b0 ≤ k := fun i hi => by
    have hv : i < vs.length := by rw [h.len]; exact hi
    have ho := h.own i vs[i] P[i] (List.getElem?_eq_getElem hv) (List.getElem?_eq_getElem hi)
    obtain ⟨A, c, e, h1, -, h3⟩ := ho.cells encI_len
    have hb := ho.block_ge e
    exact ⟨⟨P[i], A, c⟩, by rw [List.getElem?_eq_getElem hv, e]; rfl, List.getElem?_eq_getElem hi, h3, h1, fun k hk => (hb k hk).1⟩
  let f : Nat → RwV := fun i => if hi : i < P.length then (key i hi).choose else ⟨[], none, 0⟩
  have hf : ∀ i, i < P.length → vs[i]? = some (f i).val ∧ P[i]? = some (f i).r ∧ Cells W (f i).A 1 encI (f i).r ∧ (f i).r.length ≤ (f i).c ∧ ∀ k, (f i).A.map (·.block) = some k → b0 ≤ k := fun i hi => by
    have := (key i hi).choose_spec
    simp only [f, dif_pos hi]
    exact this
  refine ⟨(List.range P.length).map f, ?_, ⟨?_, ?_, ?_⟩, by simp, ?_⟩
  · apply List.ext_getElem?
    intro i
    by_cases hi : i < P.length
    · rw [(hf i hi).2.1]; simp [Wg.rows, hi]
    · simp [Wg.rows, hi]
  · intro i x hx
    by_cases hi : i < P.length
    · simp [hi] at hx
      subst hx
      refine ⟨O, 0, rfl, fun j y hj => ?_⟩
      rcases j with _ | j
      · simp [RwV.enc] at hj
        subst hj
        have := h.blk.cell (hf i hi).1
        simpa [RwV.val] using this
      · simp [RwV.enc] at hj
    · simp [hi] at hx
  · intro x hx
    obtain ⟨i, hi, rfl⟩ := List.mem_map.1 hx
    exact (hf i (List.mem_range.1 hi)).2.2.1
  · intro x hx
    obtain ⟨i, hi, rfl⟩ := List.mem_map.1 hx
    exact (hf i (List.mem_range.1 hi)).2.2.2.1
  · intro x hx
    obtain ⟨i, hi, rfl⟩ := List.mem_map.1 hx
    exact (hf i (List.mem_range.1 hi)).2.2.2.2
theorem IArr.lt' {w : World} {B T : Nat} {l : List Int} (h : IArr w B T l) : B < w.heap.size := Blk.lt h
structure CutP (p : SeP) (W0 V : World) : Prop where
  sb : Blk V p.S 142 (seC p)
  row : IArr V p.I 3 (tab p.l.length fun _ => 0)
  map : V.heap[p.M]? = some (.map #[] 0)
  ne : p.S ≠ p.I ∧ p.S ≠ p.M ∧ p.I ≠ p.M
  ge : W0.heap.size ≤ p.S ∧ W0.heap.size ≤ p.I ∧ W0.heap.size ≤ p.M
  bel : Below W0.heap.size W0 V
theorem cut_one {v : JbV} {ts : List Th} {l : List Int} {A : Option Addr} {c : Nat} {ld : Bool} {W1 W2 : World} (hb : Below W1.heap.size W1 W2) :
    CutP (mkP v ts l A c ld (W2.heap.size + 1 + 1) W2.heap.size (W2.heap.size + 1)) W1 (((W2.alloc (.cells ((tab l.length fun _ => 0).map (Value.int .i64)).toArray 3)).alloc (.map #[] 0)).alloc (.cells (seC (mkP v ts l A c ld (W2.heap.size + 1 + 1) W2.heap.size (W2.heap.size + 1))).toArray 142)) := by
  have h2 := hb.size
  refine ⟨?_, ?_, ?_, by simp [mkP]; omega, by simp [mkP]; omega, ((hb.alloc h2 _).alloc (by simp; omega) _).alloc (by simp; omega) _⟩
  · have := Blk.new ((W2.alloc (.cells ((tab l.length fun _ => 0).map (Value.int .i64)).toArray 3)).alloc (.map #[] 0)) 142 (seC (mkP v ts l A c ld (W2.heap.size + 1 + 1) W2.heap.size (W2.heap.size + 1)))
    rw [World.size_alloc, World.size_alloc] at this
    exact this
  · exact ((Blk.new W2 3 ((tab l.length fun _ => 0).map (Value.int .i64))).alloc _).alloc _
  · show (World.alloc _ _).heap[W2.heap.size + 1]? = _
    rw [Below.heap_alloc _ _ _ (by simp)]
    have := World.alloc_heap_new (W2.alloc (.cells ((tab l.length fun _ => 0).map (Value.int .i64)).toArray 3)) (.map #[] 0)
    rw [World.size_alloc] at this
    exact this
theorem cut_two {v : JbV} {ts : List Th} {l : List Int} {A : Option Addr} {c : Nat} {ld : Bool} {W1 W2 : World} (hb : Below W1.heap.size W1 W2) :
    CutP (mkP v ts l A c ld (W2.heap.size + 1 + 1) (W2.heap.size + 1) W2.heap.size) W1 (((W2.alloc (.map #[] 0)).alloc (.cells ((tab l.length fun _ => 0).map (Value.int .i64)).toArray 3)).alloc (.cells (seC (mkP v ts l A c ld (W2.heap.size + 1 + 1) (W2.heap.size + 1) W2.heap.size)).toArray 142)) := by
  have h2 := hb.size
  refine ⟨?_, ?_, ?_, by simp [mkP]; omega, by simp [mkP]; omega, ((hb.alloc h2 _).alloc (by simp; omega) _).alloc (by simp; omega) _⟩
  · have := Blk.new ((W2.alloc (.map #[] 0)).alloc (.cells ((tab l.length fun _ => 0).map (Value.int .i64)).toArray 3)) 142 (seC (mkP v ts l A c ld (W2.heap.size + 1 + 1) (W2.heap.size + 1) W2.heap.size))
    rw [World.size_alloc, World.size_alloc] at this
    exact this
  · have := (Blk.new (W2.alloc (.map #[] 0)) 3 ((tab l.length fun _ => 0).map (Value.int .i64))).alloc (.cells (seC (mkP v ts l A c ld (W2.heap.size + 1 + 1) (W2.heap.size + 1) W2.heap.size)).toArray 142)
    rw [World.size_alloc] at this
    exact this
  · show (World.alloc _ _).heap[W2.heap.size]? = _
    rw [Below.heap_alloc _ _ _ (by simp; omega), Below.heap_alloc _ _ _ (by simp)]
    exact World.alloc_heap_new W2 _
theorem CutP.ext {p : SeP} {W0 V V' : World} (h : CutP p W0 V) (hb : Below V.heap.size V V') : CutP p W0 V' := by
  refine ⟨h.sb.ext hb, IArr.ext h.row hb, (hb.block _ (Array.getElem?_eq_some_iff.1 h.map).1).trans h.map, h.ne, h.ge, h.bel.trans (hb.mono h.bel.size)⟩
theorem CutP.put {p : SeP} {W0 V : World} (h : CutP p W0 V) {a : Addr} (u : Value) (h1 : p.S ≠ a.block) (h2 : p.I ≠ a.block) (h3 : p.M ≠ a.block) (h4 : W0.heap.size ≤ a.block) : CutP p W0 (V.setCell a u) :=
  ⟨h.sb.other h1 u, IArr.other h.row h2 u, (Below.heap_setCell V a u p.M h3).trans h.map, h.ne, h.ge, h.bel.setCell h4 u⟩
end Go.Wg
namespace Go.Proofs.Ytbpmfaibcibleaa
open Go.RowKit Go.Bs Go.Wg Go.Pl Go.Sort
theorem MapS.start (p : SeP) (V : World) (h : V.heap[p.M]? = some (.map #[] 0)) : MapS p V 0 :=
  ⟨.map [], ⟨#[], 0, h, ⟨by simp, MapKept.stamped_empty 0, by simp⟩, Nat.le_refl _, rfl⟩, fun x kl _ _ h => by simp [DataW.atKey] at h⟩
theorem info35 : (Try.prog.info? 35).map (fun i => (i.zero, i.size, i.bytes)) = some (some (.slice none 0 0), 1, 24) := by kernel_rfl
theorem mk41 (n : Nat) (hn : n ≤ 1000000) (w : World) :
    (Instr.makeSlice 41 (.int .i64 (n : Int)) (.int .i64 (n : Int))).run Try.prog w = .ok (.slice (some ⟨w.heap.size, 0, none⟩) n n) (w.alloc (.cells (List.replicate n (Value.slice none 0 0)).toArray 35)) := by
  obtain ⟨i0, hi, hz0, hz1, hz2⟩ := info_parts info35
  have hr := run_make (P := Try.prog) w 41 35 i0 _ Try.underlying41 hi hz0 .i64 .i64 (n : Int) (n : Int) (by omega) (by omega) (by rw [hz2]; omega) (by omega)
  rw [hr, hz1]
  simp only [Int.toNat_natCast]
  refine congrArg (fun c => Result.ok (Value.slice (some ⟨w.heap.size, 0, none⟩) n n) (w.alloc (.cells c 35))) ?_
  apply Array.ext
  · simp [size_madeCells]
  · intro j h2 h3
    simp [madeCells, Value.cells, Nat.mod_one]
theorem mk35 (n : Nat) (hn : n ≤ 1000000) (w : World) : (Instr.makeSlice 35 (.int .i64 (n : Int)) (.int .i64 (n : Int))).run Try.prog w = .ok (.slice (some ⟨w.heap.size, 0, none⟩) n n) (w.alloc (.cells ((tab n fun _ => 0).map (Value.int .i64)).toArray 3)) := by
  obtain ⟨i0, hi, hz0, hz1, hz2⟩ := info_parts info3
  have := run_mk (P := Try.prog) Try.underlying35 hi hz0 hz1 hz2 (n : Int) (by omega) (by omega) w
  simpa using this
/-- what pack returns and leaves -/
def PkR (j : Lo) (ts : List Th) (l : List Int) (ld : Bool) (w : World) (e : Ending) (w' : World) : Prop :=
  Below w.heap.size w w' ∧ ((packL j ts l ld = none ∧ e = .returned (.tuple #[.slice none 0 0, .bool false])) ∨
    ∃ P O c rs, packL j ts l ld = some P ∧ e = .returned (.tuple #[.slice (some ⟨O, 0, none⟩) rs.length c, .bool true]) ∧ rows rs = P ∧ RwM w' (some ⟨O, 0, none⟩) rs ∧ w.heap.size ≤ O ∧ ∀ x ∈ rs, ∀ k, x.A.map (·.block) = some k → w.heap.size ≤ k)
set_option maxRecDepth 100000 in
set_option maxHeartbeats 8000000 in
theorem pack_any (v : JbV) (ts : List Th) (A : Option Addr) (c : Nat) (l : List Int) (ld : Bool) (w : World) (hj : JbM w v ts) (hok : ∀ t ∈ ts, t.Ok) (hlo : v.x.l.Ok) (hm : l.length ≤ 14) (hst : ts.length ≤ 1000) (hin : InR ts.length l) (hc : Cells w A 1 Go.Bs.encI l) :
    Calls Try.prog 91 #[JbV.val v ts, .slice A l.length c, .bool ld] w (PkR v.x.l ts l ld w) := by
  have hb0 := ext_alloc w (.cells (JbV.enc v ts).toArray 108)
  have hP := Blk.new w 108 (JbV.enc v ts)
  have hj0 := hj.ext hb0
  have hc0 := hc.ext hb0
  have Hin := Lib.hid hin
  have Hok := Lib.hid hok
  have Hlo := Lib.hid hlo
  clear hj hc hin hok hlo
  unfold JbV.val
  unfold JbV.enc at *
  go_enter Try.func91, Try.ntmps91
  go_upto_region 1 with fail
  change Blk (w.alloc (.cells #[.slice v.x.A v.x.l.lanes.length v.x.c, .int .i64 v.x.l.height, .int .i64 v.x.l.carries, .int .i64 v.x.l.empty, .int .i64 v.x.l.rear, .int .i64 v.x.l.axle, .int .i64 v.x.l.deck, .slice v.T ts.length v.cT] 108)) _ _ _ at hP
  change Below w.heap.size w (w.alloc (.cells #[.slice v.x.A v.x.l.lanes.length v.x.c, .int .i64 v.x.l.height, .int .i64 v.x.l.carries, .int .i64 v.x.l.empty, .int .i64 v.x.l.rear, .int .i64 v.x.l.axle, .int .i64 v.x.l.deck, .slice v.T ts.length v.cT] 108)) at hb0
  change JbM (w.alloc (.cells #[.slice v.x.A v.x.l.lanes.length v.x.c, .int .i64 v.x.l.height, .int .i64 v.x.l.carries, .int .i64 v.x.l.empty, .int .i64 v.x.l.rear, .int .i64 v.x.l.axle, .int .i64 v.x.l.deck, .slice v.T ts.length v.cT] 108)) _ _ at hj0
  change Cells (w.alloc (.cells #[.slice v.x.A v.x.l.lanes.length v.x.c, .int .i64 v.x.l.height, .int .i64 v.x.l.carries, .int .i64 v.x.l.empty, .int .i64 v.x.l.rear, .int .i64 v.x.l.axle, .int .i64 v.x.l.deck, .slice v.T ts.length v.cT] 108)) _ _ _ _ at hc0
  generalize w.alloc (.cells #[.slice v.x.A v.x.l.lanes.length v.x.c, .int .i64 v.x.l.height, .int .i64 v.x.l.carries, .int .i64 v.x.l.empty, .int .i64 v.x.l.rear, .int .i64 v.x.l.axle, .int .i64 v.x.l.deck, .slice v.T ts.length v.cT] 108) = W0 at *
  have q0 : W0.cell? ⟨w.heap.size, 0, none⟩ = _ := hP.cell (i := 0) rfl
  have q1 : W0.cell? ⟨w.heap.size, 1, none⟩ = _ := hP.cell (i := 1) rfl
  have q2 : W0.cell? ⟨w.heap.size, 2, none⟩ = _ := hP.cell (i := 2) rfl
  have q3 : W0.cell? ⟨w.heap.size, 3, none⟩ = _ := hP.cell (i := 3) rfl
  have q4 : W0.cell? ⟨w.heap.size, 4, none⟩ = _ := hP.cell (i := 4) rfl
  have q5 : W0.cell? ⟨w.heap.size, 5, none⟩ = _ := hP.cell (i := 5) rfl
  have q6 : W0.cell? ⟨w.heap.size, 6, none⟩ = _ := hP.cell (i := 6) rfl
  have q7 : W0.cell? ⟨w.heap.size, 7, none⟩ = _ := hP.cell (i := 7) rfl
  have C1 := Lib.hid (carries_any v ts A _ c l W0 hj0 Hok.out rfl (by omega) Hin.out hc0)
  unfold JbV.val at C1
  generalize hcb : carB v.x.l ts l = cb at *
  have Hcb := Lib.hid hcb
  clear hcb
  go_wp2_with fail
  refine C1.out.mono ?_; rintro e W1 ⟨rfl, hx1⟩
  have hb1 := ext_trans hb0 hx1
  have hP1 := hP.ext hx1
  have hj1 := hj0.ext hx1
  have hc1 := hc0.ext hx1
  clear q0 q1 q2 q3 q4 q5 q6 q7
  clear C1 hb0 hP hj0 hc0 hx1
  cases cb
  case false =>
    have Hn := Lib.hid (show packL v.x.l ts l ld = none by unfold packL; rw [Hcb.out]; rfl)
    go_wp2
    go_ret2
    exact ⟨hb1, .inl ⟨Hn.out, rfl⟩⟩
  case true =>
  have Hpk := Lib.hid (show packL v.x.l ts l ld = (srch v.x.l.lanes.length ld (l.map (thAt ts)) (pad v.x.l.lanes) (firstN v.x.l.lanes.length)).map fun p => laid ts v.x.l.lanes.length l p by unfold packL; rw [Hcb.out]; rfl)
  clear Hcb
  go_upto_region 3 with fail
  go_cut [8] (fun u V => ∃ S I M, u = .pointer (some ⟨S, 0, none⟩) ∧ CutP (mkP v ts l A c ld S I M) W1 V)
  case first =>
    have hmk := mk35 l.length (by omega)
    have hmm := @run_makeMap Try.prog
    have hl0 : (0 : Int) ≤ l.length := by omega
    refine Dr.wp_region_plan 10 [] (.q [0, 1, 2, 3, 4] (.e2 5 (.e1 6 (.q [7] (.e1 8 (.q [9] .done)))) 6 (.e1 5 (.q [7] (.e1 8 (.q [9] .done)))))) (by kernel_rfl) (by kernel_rfl) ?_
    have hP2 := hP1.drew
    have hbd := ext_drew W1
    generalize hW2 : World.drew W1 = W2 at *
    clear hW2
    have q0 := Dr.cell0 (hP2.cell (i := 0) rfl)
    have q1 := Dr.cell0 (hP2.cell (i := 1) rfl)
    have q2 := Dr.cell0 (hP2.cell (i := 2) rfl)
    have q3 := Dr.cell0 (hP2.cell (i := 3) rfl)
    have q4 := Dr.cell0 (hP2.cell (i := 4) rfl)
    have q5 := Dr.cell0 (hP2.cell (i := 5) rfl)
    have q6 := Dr.cell0 (hP2.cell (i := 6) rfl)
    have q7 := Dr.cell0 (hP2.cell (i := 7) rfl)
    refine Dr.plan_q (l := [_, _, _, _, _]) rfl (fun K hK => ?_)
    iterate 5 (go_big_quiet_step (fail))
    refine wpQuiet_nil (hK _ ?_); clear hK K
    clear q0 q1 q2 q3 q4 q5 q6 q7
    refine Dr.plan_e2 ?_ ?_
    · refine Dr.plan_e rfl (by rfl) (fun K hK => ?_)
      go_wp2
      refine hK _ _ (.of (ext_alloc _ _)) ?_; clear hK K
      refine Dr.plan_e rfl (by rfl) (fun K hK => ?_)
      go_wp2
      refine hK _ _ (.of (ext_alloc _ _)) ?_; clear hK K
      refine Dr.plan_q (l := [_]) rfl (fun K hK => ?_)
      iterate 1 (go_big_quiet_step (fail))
      refine wpQuiet_nil (hK _ ?_); clear hK K
      refine Dr.plan_e rfl (by rfl) (fun K hK => ?_)
      go_wp2
      refine hK _ _ (.of (ext_alloc _ _)) ?_; clear hK K
      refine Dr.plan_q (l := [_]) rfl (fun K hK => ?_)
      iterate 1 (go_big_quiet_step (fail))
      refine wpQuiet_nil (hK _ ?_); clear hK K
      refine Dr.plan_end rfl ?_
      go_wp2
      go_meet
      case rel => exact ⟨_, _, _, rfl, cut_one hbd⟩
    · refine Dr.plan_e rfl (by rfl) (fun K hK => ?_)
      go_wp2
      refine hK _ _ (.of (ext_alloc _ _)) ?_; clear hK K
      refine Dr.plan_e rfl (by rfl) (fun K hK => ?_)
      go_wp2
      refine hK _ _ (.of (ext_alloc _ _)) ?_; clear hK K
      refine Dr.plan_q (l := [_]) rfl (fun K hK => ?_)
      iterate 1 (go_big_quiet_step (fail))
      refine wpQuiet_nil (hK _ ?_); clear hK K
      refine Dr.plan_e rfl (by rfl) (fun K hK => ?_)
      go_wp2
      refine hK _ _ (.of (ext_alloc _ _)) ?_; clear hK K
      refine Dr.plan_q (l := [_]) rfl (fun K hK => ?_)
      iterate 1 (go_big_quiet_step (fail))
      refine wpQuiet_nil (hK _ ?_); clear hK K
      refine Dr.plan_end rfl ?_
      go_wp2
      go_meet
      case rel => exact ⟨_, _, _, rfl, cut_two hbd⟩
  case rest =>
  obtain ⟨S, I, M, rfl, hcut⟩ := hcut
  have hbc := hcut.bel
  have hPc := hP1.under hbc hP1.lt
  have hB9 : Blk (wc.alloc (.cells #[.int .i64 0, .int .i64 0, .int .i64 0, .int .i64 0, .int .i64 0, .int .i64 0, .int .i64 0, .int .i64 0, .int .i64 0, .int .i64 0, .int .i64 0, .int .i64 0, .int .i64 0] 146)) wc.heap.size 146 (staC ⟨0, padTo v.x.l.lanes 0, firTo 0⟩) := Blk.new wc 146 [.int .i64 0, .int .i64 0, .int .i64 0, .int .i64 0, .int .i64 0, .int .i64 0, .int .i64 0, .int .i64 0, .int .i64 0, .int .i64 0, .int .i64 0, .int .i64 0, .int .i64 0]
  have hx9 := ext_alloc wc (.cells #[.int .i64 0, .int .i64 0, .int .i64 0, .int .i64 0, .int .i64 0, .int .i64 0, .int .i64 0, .int .i64 0, .int .i64 0, .int .i64 0, .int .i64 0, .int .i64 0, .int .i64 0] 146)
  have HS9 := Lib.hid (show S < wc.heap.size ∧ I < wc.heap.size ∧ M < wc.heap.size from ⟨hcut.sb.lt, IArr.lt' hcut.row, (Array.getElem?_eq_some_iff.1 hcut.map).1⟩)
  have hsz9 := hbc.size
  have q0 : wc.cell? ⟨w.heap.size, 0, none⟩ = _ := hPc.cell (i := 0) rfl
  have hPlt := hPc.lt
  go_upto_region 5 with fail
  have hc9 := hcut.ext hx9
  clear hcut hx9 q0 hPlt
  generalize wc.alloc (.cells #[.int .i64 0, .int .i64 0, .int .i64 0, .int .i64 0, .int .i64 0, .int .i64 0, .int .i64 0, .int .i64 0, .int .i64 0, .int .i64 0, .int .i64 0, .int .i64 0, .int .i64 0] 146) = V0 at *
  have hP9 := hP1.under hc9.bel hP1.lt
  have q0 : V0.cell? ⟨w.heap.size, 0, none⟩ = _ := hP9.cell (i := 0) rfl
  have hPlt := hP9.lt
  go_wp2
  clear q0 hPlt hP9
  have hnl := Hlo.out.many
  have hlanes := Hlo.out.lanes
  have Hlanes := Lib.hid hlanes
  clear hlanes
  obtain ⟨b0, off0, eL, -, -⟩ := hj1.lanes.at1 (k := 0) (by omega) rfl
  rw [eL]
  have EL := Lib.hid eL
  clear eL
  go_loopw [34] (fun t wr => ∃ k : Nat, t = .int .i64 k ∧ k ≤ v.x.l.lanes.length ∧ CutP (mkP v ts l A c ld S I M) W1 wr ∧ Blk wr wc.heap.size 146 (staC ⟨0, padTo v.x.l.lanes k, firTo k⟩)) (fun t _ => v.x.l.lanes.length - (intOf t).toNat)
  case atStart => exact ⟨0, rfl, by omega, hc9, hB9⟩
  case round =>
    clear hc9 hB9
    obtain ⟨k, rfl, hk, hcr, hBr⟩ := hrel
    by_cases hlt : k < v.x.l.lanes.length
    · have hlt' : (k : Int) < (v.x.l.lanes.length : Int) := by omega
      have k6 : k < 6 := by omega
      have k6' : (k : Int) < 6 := by omega
      obtain ⟨b, off, eL, -, d0⟩ := (hj1.ext hcr.bel).lanes.at1 hlt rfl
      have HL1 := Lib.hid (padTo_succ v.x.l.lanes k6)
      have HL2 := Lib.hid (firTo_succ k6)
      have Hlk := Lib.hid (show v.x.l.lanes.getD k 0 = v.x.l.lanes[k] by simp [List.getD, hlt])
      have c1 := hBr.cell (staC_left ⟨0, padTo v.x.l.lanes k, firTo k⟩ k6)
      have c2 := hBr.cell (staC_needs ⟨0, padTo v.x.l.lanes k, firTo k⟩ k6)
      have f1 := hBr.free (1 + k)
      have f2 := hBr.free (7 + k)
      have hwlt := hBr.lt
      simp only at c1 c2
      rw [EL.out] at eL
      cases eL
      generalize hlk : v.x.l.lanes[k] = lk at *
      have HlkE := Lib.hid hlk
      clear hlk
      go_upto_region 9 with fail
      have hB2 := (hBr.set (1 + k) (.int .i64 lk)).set (7 + k) (.int .i64 1000)
      rw [staC_setL ⟨0, padTo v.x.l.lanes k, firTo k⟩ (padTo_len _ _) k6] at hB2
      rw [staC_setN ⟨0, (padTo v.x.l.lanes k).set k lk, firTo k⟩ (firTo_len _) k6] at hB2
      rw [← Hlk.out, HL1.out, HL2.out] at hB2
      have hS9 := HS9.out
      have hc2 := (hcr.put (a := ⟨wc.heap.size, 1 + k, none⟩) (.int .i64 lk) (by simp [mkP]; omega) (by simp [mkP]; omega) (by simp [mkP]; omega) hsz9).put (a := ⟨wc.heap.size, 7 + k, none⟩) (.int .i64 1000) (by simp [mkP]; omega) (by simp [mkP]; omega) (by simp [mkP]; omega) hsz9
      rw [Hlk.out] at hB2
      clear c1 c2 f1 f2 hwlt d0 hcr hBr
      generalize (wr.setCell ⟨wc.heap.size, 1 + k, none⟩ (.int .i64 lk)).setCell ⟨wc.heap.size, 7 + k, none⟩ (.int .i64 1000) = V2 at *
      go_wp2
      go_roundw
      case rel => exact ⟨k + 1, by go_num, by omega, hc2, hB2⟩
      case measure => simp [intOf]; omega
    · obtain rfl : v.x.l.lanes.length = k := by omega
      rw [padTo_end, firTo_end] at hBr
      have hM : SeM wr (mkP v ts l A c ld S I M) := ⟨hcr.sb, (hj1.ext hcr.bel).things, hc1.ext hcr.bel, hcr.ne,
        fun k hk => (cells_lt hj1.things (by intro x; simp [Th.enc]) k hk).imp (fun h => by have := hcr.ge; simp [mkP] at this ⊢; omega) id,
        fun k hk => (cells_lt hc1 (by intro x; simp [Go.Bs.encI]) k hk).imp (fun h => by have := hcr.ge; simp [mkP] at this ⊢; omega) id⟩
      have hSS : SeS (mkP v ts l A c ld S I M) := ⟨Hok.out, Hin.out, hnl.2, hst, by show l.length ≤ 1000; omega⟩
      have hu14 := updN_14 hm
      have CF := Lib.hid (find_all (mkP v ts l A c ld S I M) hSS l.length ⟨0, pad v.x.l.lanes, firstN v.x.l.lanes.length⟩ (start_ok Hlanes.out) rfl 0 wr (tab l.length fun _ => 0) hM (MapS.start _ _ hcr.map) hcr.row (tab_len _ _) (by omega))
      have HsxE := Lib.hid (show sx (mkP v ts l A c ld S I M) ⟨0, pad v.x.l.lanes, firstN v.x.l.lanes.length⟩ = srch v.x.l.lanes.length ld (l.map (thAt ts)) (pad v.x.l.lanes) (firstN v.x.l.lanes.length) from rfl)
      have hsbr := hcr.sb
      have hger := hcr.ge
      have hner := hcr.ne
      have hbr := hcr.bel
      have hBr2 := hBr
      unfold staC at hBr2
      unfold staV at CF
      have q0 : wr.cell? ⟨wc.heap.size, 0, none⟩ = _ := hBr2.cell (i := 0) rfl
      have q1 : wr.cell? ⟨wc.heap.size, 1, none⟩ = _ := hBr2.cell (i := 1) rfl
      have q2 : wr.cell? ⟨wc.heap.size, 2, none⟩ = _ := hBr2.cell (i := 2) rfl
      have q3 : wr.cell? ⟨wc.heap.size, 3, none⟩ = _ := hBr2.cell (i := 3) rfl
      have q4 : wr.cell? ⟨wc.heap.size, 4, none⟩ = _ := hBr2.cell (i := 4) rfl
      have q5 : wr.cell? ⟨wc.heap.size, 5, none⟩ = _ := hBr2.cell (i := 5) rfl
      have q6 : wr.cell? ⟨wc.heap.size, 6, none⟩ = _ := hBr2.cell (i := 6) rfl
      have q7 : wr.cell? ⟨wc.heap.size, 7, none⟩ = _ := hBr2.cell (i := 7) rfl
      have q8 : wr.cell? ⟨wc.heap.size, 8, none⟩ = _ := hBr2.cell (i := 8) rfl
      have q9 : wr.cell? ⟨wc.heap.size, 9, none⟩ = _ := hBr2.cell (i := 9) rfl
      have q10 : wr.cell? ⟨wc.heap.size, 10, none⟩ = _ := hBr2.cell (i := 10) rfl
      have q11 : wr.cell? ⟨wc.heap.size, 11, none⟩ = _ := hBr2.cell (i := 11) rfl
      have q12 : wr.cell? ⟨wc.heap.size, 12, none⟩ = _ := hBr2.cell (i := 12) rfl
      have hwlt := hBr.lt
      clear hu14 hM hcr hBr2
      go_wp2_with fail
      refine CF.out.mono ?_; rintro e W2 h
      obtain ⟨rfl, hb2, hm2, inl2, r1, r2, r3, r4⟩ := h
      clear q0 q1 q2 q3 q4 q5 q6 q7 q8 q9 q10 q11 q12
      clear hwlt CF hm2 r3
      have hbW2 : Below W1.heap.size W1 W2 := hbr.trans (hb2.old hbr.size (by simp [mkP] at hger ⊢; omega))
      have hsb2 := hb2.blk hsbr (by simp [mkP] at hner ⊢; omega)
      rw [HsxE.out] at r4 ⊢
      have R4 := Lib.hid r4
      have R2 := Lib.hid r2
      clear r4 r2 HsxE hsbr hb2 hbr hBr
      cases hq : srch v.x.l.lanes.length ld (l.map (thAt ts)) (pad v.x.l.lanes) (firstN v.x.l.lanes.length) with
      | none =>
        have Hn := Lib.hid (show packL v.x.l ts l ld = none by rw [Hpk.out, hq]; rfl)
        clear hq
        go_wp2
        go_ret2
        exact ⟨ext_trans hb1 hbW2, .inl ⟨Hn.out, rfl⟩⟩
      | some qs =>
      have Hn := Lib.hid (show packL v.x.l ts l ld = some (laid ts v.x.l.lanes.length l qs) by rw [Hpk.out, hq]; rfl)
      have hql := srch_len _ _ _ _ hq
      rw [List.length_map] at hql
      have Hql := Lib.hid hql
      have Hqm := Lib.hid (show ∀ i ∈ qs, i < v.x.l.lanes.length from fit_lt _ _ _ _ (srch_fit _ _ _ _ hq))
      have Hinl := Lib.hid (show inl2 = qs.map Int.ofNat from R4.out qs hq)
      clear hq hql Hpk
      have hmk := mk41 v.x.l.lanes.length (by omega)
      have hP2 := hP1.under hbW2 hP1.lt
      have q0 : W2.cell? ⟨w.heap.size, 0, none⟩ = _ := hP2.cell (i := 0) rfl
      have hPlt := hP2.lt
      have hl0 : (0 : Int) ≤ v.x.l.lanes.length := by omega
      go_upto_region 13 with fail
      clear hmk q0 hPlt hP2 hl0
      have hrep : (Array.replicate v.x.l.lanes.length (Value.slice none 0 0)) = (List.replicate v.x.l.lanes.length (Value.slice none 0 0)).toArray := by simp
      rw [hrep]
      clear hrep
      have hO := Blk.new W2 35 (List.replicate v.x.l.lanes.length (Value.slice none 0 0))
      have hx3 := ext_alloc W2 (.cells (List.replicate v.x.l.lanes.length (Value.slice none 0 0)).toArray 35)
      generalize W2.alloc (.cells (List.replicate v.x.l.lanes.length (Value.slice none 0 0)).toArray 35) = W3 at *
      have hs3 := hsb2.ext hx3
      unfold seC mkP at hs3
      simp only at hs3
      have q10 : W3.cell? ⟨S, 0 + 10, none⟩ = _ := hs3.cell (i := 10) rfl
      have q10' : W3.cell? ⟨S, 10, none⟩ = _ := hs3.cell (i := 10) rfl
      have hSlt := hs3.lt
      have hI2 := IArr.lt' r1
      go_wp2
      clear q10 q10' hSlt hs3
      go_loopw [61] (fun t wr => ∃ k : Nat, t = .int .i64 k ∧ k ≤ l.length ∧ Below W2.heap.size W2 wr ∧ ∃ vs, RwJ W2.heap.size wr W2.heap.size (rowsTo v.x.l.lanes.length l qs k) vs) (fun t _ => l.length - (intOf t).toNat)
      case atStart => exact ⟨0, rfl, by omega, hx3, _, by rw [rowsTo_zero]; exact RwJ.start hO (Nat.le_refl _)⟩
      case round =>
        clear hx3 hO
        obtain ⟨k, rfl, hk, hb, vs, hJ⟩ := hrel
        have hbw := hbW2.trans (hb.mono hbW2.size)
        by_cases hlt : k < l.length
        · have hlt' : (k : Int) < (l.length : Int) := by omega
          have hk2 : k < qs.length := by rw [Hql.out]; exact hlt
          have hqn := Hqm.out qs[k] (List.getElem_mem hk2)
          have hqn' : ((qs[k] : Nat) : Int) < (v.x.l.lanes.length : Int) := by omega
          have cI : wr.cell? ⟨I, k, none⟩ = some (.int .i64 (qs[k] : Nat)) := by
            have h1 : IArr wr I 3 inl2 := (hb.block I hI2).trans r1
            exact h1.cell (by rw [Hinl.out]; simp [hk2])
          obtain ⟨b, off, rfl, hbW1, cl1⟩ := hc1.at1 hlt rfl
          have cl := (hbw.cell (p := ⟨b, off + k, none⟩) hbW1).trans cl1
          obtain ⟨vv, hv⟩ : ∃ vv, vs[qs[k]]? = some vv := ⟨_, List.getElem?_eq_getElem (by rw [hJ.len, rowsTo_len]; exact hqn)⟩
          have hown := hJ.own qs[k] vv _ hv (rowsTo_get hqn)
          have hple : (Wg.part (l.take k) (qs.take k) qs[k]).length ≤ 14 := by
            have h1 := part_len_le (l.take k) (qs.take k) qs[k]
            have h2 : (l.take k).length ≤ l.length := by rw [List.length_take]; omega
            omega
          have Hsu := Lib.hid (rowsTo_succ (nl := v.x.l.lanes.length) hlt hk2 hqn)
          have Hple := Lib.hid hple
          have hcO := hJ.blk.cell hv
          have Hv := Lib.hid hv
          clear hple hv cl1
          generalize Wg.part (l.take k) (qs.take k) qs[k] = L at *
          generalize l[k] = x at *
          generalize qs[k] = i at *
          obtain ⟨A2, c2, rfl, -, -, -⟩ := hown.cells Go.Bs.encI_len
          go_upto_region 16 with fail
          refine Dr.wp_region_plan 13 (Value.slice A2 L.length c2).ownBlock.toList (.q [0, 1, 2, 3, 4, 5, 6, 7, 8, 9] (.e1 10 (.e1 11 (.q [12] .done)))) (by kernel_rfl) (by kernel_rfl) ?_
          have hJ2 := hJ.ext (ext_drew wr)
          have ho2 := hown.drew
          have hb2 := hb.drew
          have z0 : wr.drew.cell? ⟨W2.heap.size, i, none⟩ = _ := hcO
          have z1 : wr.drew.cell? ⟨b, off + k, none⟩ = _ := cl
          have hs2 := hb.size
          have hz2 : wr.drew.heap.size = wr.heap.size := rfl
          have Hz2 := Lib.hid hz2
          have hblt := cell_lt cl
          clear hJ hown hb hcO cl cI hz2
          have hOm : W2.heap.size ∉ (Value.slice A2 L.length c2).ownBlock.toList := fun h => hJ2.out i _ Hv.out (by simpa using h)
          have hbm : b ∉ (Value.slice A2 L.length c2).ownBlock.toList := fun h => by
            have h1 := (ho2.lt (by simpa using h)).1
            have h2 := hbW2.size
            omega
          generalize World.drew wr = V at *
          have p0 := Dr.cls_cell z0 hOm
          have p1 := Dr.cls_cell z1 hbm
          refine Dr.plan_q (l := [_, _, _, _, _, _, _, _, _, _]) rfl (fun K hK => ?_)
          iterate 10 (go_big_quiet_step (fail))
          refine wpQuiet_nil (hK _ ?_); clear hK K
          clear p0 p1 hbm
          refine Dr.plan_e rfl (by rfl) (fun K hK => ?_)
          go_wp2
          have hbs : Below V.heap.size V (V.alloc (.cells #[.int .i64 x] 3)) := ext_alloc _ _
          have nw := Blk.new V 3 [.int .i64 x]
          refine hK _ _ (.of hbs) ?_; clear hK K
          have hJ3 := hJ2.ext hbs
          have ho3 := ho2.ext hbs
          have hb3 := hb2.trans (hbs.mono hb2.size)
          have hVlt := hbs.size
          clear hJ2 ho2 hb2 z0 z1
          change Blk (V.alloc (.cells #[.int .i64 x] 3)) _ _ _ at nw
          generalize V.alloc (.cells #[.int .i64 x] 3) = V1 at *
          refine Dr.plan_e rfl (by rfl) (fun K hK => ?_)
          refine wp_app1 Go.Bs.encI 35 3 1 8 et35 (by decide) (by decide) encI_len encI_one _ _ rfl W2.heap.size _ L rfl ho3 V.heap.size rfl x (encI_cell (nw.cell rfl)) (by have := Hple.out; omega) hb3.size ?_
          intro g' cap w' ho' hb' hg' hat'
          refine hK _ _ ⟨hg'.os, hg'.tape, hg'.output, hg'.size, fun k hk hm => hg'.block k hk (fun e => hm (by simp; exact e.symm))⟩ ?_; clear hK K
          go_frame
          refine Dr.plan_q (l := [_]) rfl (fun K hK => ?_)
          iterate 1 (go_big_quiet_step (fail))
          refine wpQuiet_nil (hK _ ?_); clear hK K
          refine Dr.plan_done (tl := [_]) rfl ?_
          have hb4 := hb3.trans hb'
          have hJ4 := hJ3.row Hv.out ho' hg' (by
            rcases hat' with e | e
            · left; exact (show (Value.slice A2 L.length c2).ownBlock = some g' from e).symm
            · right; right; exact ⟨g', rfl, by rw [e]; exact Nat.le_refl _⟩)
          rw [Hsu.out] at hJ4
          have hOb : Blk w' W2.heap.size 35 vs := (hg'.block _ hJ3.blk.lt (fun e => hJ3.out i _ Hv.out e.symm)).trans hJ3.blk
          have z0 := hOb.cell Hv.out
          have z1 := hOb.free i
          have hb5 : Below W2.heap.size W2 _ := hb4.setCell (p := ⟨W2.heap.size, i, none⟩) (Nat.le_refl _) (.slice (some ⟨g', 0, none⟩) (L.length + 1) cap)
          have hwlt := hOb.lt
          clear hJ3 ho3 ho' hg' hb' hb3 hOb nw hbs
          go_wp2
          clear z0 z1 hwlt hb4
          generalize w'.setCell ⟨W2.heap.size, i, none⟩ (.slice (some ⟨g', 0, none⟩) (L.length + 1) cap) = V2 at *
          go_roundw
          case rel => exact ⟨k + 1, by go_num, by omega, hb5, _, hJ4⟩
          case measure => simp [intOf]; omega
        · obtain rfl : l.length = k := by omega
          rw [rowsTo_end _ _ _ Hql.out] at hJ
          have Hpl := Lib.hid (show ((List.range v.x.l.lanes.length).map (Wg.part l qs)).length = v.x.l.lanes.length by simp)
          have Hpm := Lib.hid (show ∀ r ∈ (List.range v.x.l.lanes.length).map (Wg.part l qs), InR ts.length r ∧ r.length ≤ 20 from fun r hr => by
            obtain ⟨i, -, rfl⟩ := List.mem_map.1 hr
            exact ⟨fun y hy => Hin.out y (part_mem hy), by have := part_len_le l qs i; omega⟩)
          have Hfin := Lib.hid (laid_eq ts v.x.l.lanes.length l qs)
          have hJ0 : ∃ vs, RwJ W2.heap.size wr W2.heap.size (ordTo ts ((List.range v.x.l.lanes.length).map (Wg.part l qs)) 0) vs := ⟨vs, by simpa [ordTo] using hJ⟩
          clear hJ r1 hI2 Hqm
          generalize (List.range v.x.l.lanes.length).map (Wg.part l qs) = P at *
          go_wp2
          obtain ⟨wo, rfl⟩ : ∃ wo : World, wo = wr := ⟨_, rfl⟩
          go_loopw [82] (fun t wr => ∃ k : Nat, t = .int .i64 k ∧ k ≤ v.x.l.lanes.length ∧ Below W2.heap.size W2 wr ∧ ∃ vs, RwJ W2.heap.size wr W2.heap.size (ordTo ts P k) vs) (fun t _ => v.x.l.lanes.length - (intOf t).toNat)
          case atStart => exact ⟨0, rfl, by omega, hb, hJ0⟩
          case round =>
            clear hb hJ0 hbw
            obtain ⟨k, rfl, hk, hb, vs, hJ⟩ := hrel
            have hbw := hbW2.trans (hb.mono hbW2.size)
            by_cases hkl : k < v.x.l.lanes.length
            · have hkl' : (k : Int) < (v.x.l.lanes.length : Int) := by omega
              have hkP : k < P.length := by rw [Hpl.out]; exact hkl
              obtain ⟨vv, hv⟩ : ∃ vv, vs[k]? = some vv := ⟨_, List.getElem?_eq_getElem (by rw [hJ.len, ordTo_len, Hpl.out]; exact hkl)⟩
              have hown := hJ.own k vv _ hv (ordTo_get hkP)
              have hpm := Hpm.out P[k] (List.getElem_mem hkP)
              have Hos := Lib.hid (ordTo_succ (ts := ts) hkP)
              have Hgk := Lib.hid (ordTo_get (ts := ts) hkP)
              have Hv := Lib.hid hv
              have z0 := hJ.blk.cell hv
              have hPr := hP1.under hbw hP1.lt
              have q0 : wr.cell? ⟨w.heap.size, 0, none⟩ = _ := hPr.cell (i := 0) rfl
              have q1 : wr.cell? ⟨w.heap.size, 1, none⟩ = _ := hPr.cell (i := 1) rfl
              have q2 : wr.cell? ⟨w.heap.size, 2, none⟩ = _ := hPr.cell (i := 2) rfl
              have q3 : wr.cell? ⟨w.heap.size, 3, none⟩ = _ := hPr.cell (i := 3) rfl
              have q4 : wr.cell? ⟨w.heap.size, 4, none⟩ = _ := hPr.cell (i := 4) rfl
              have q5 : wr.cell? ⟨w.heap.size, 5, none⟩ = _ := hPr.cell (i := 5) rfl
              have q6 : wr.cell? ⟨w.heap.size, 6, none⟩ = _ := hPr.cell (i := 6) rfl
              have q7 : wr.cell? ⟨w.heap.size, 7, none⟩ = _ := hPr.cell (i := 7) rfl
              have hPlt := hPr.lt
              have hOlt := hJ.blk.lt
              clear hv
              generalize P[k] = r at *
              have ho2 := hown
              obtain ⟨hl1, hl2⟩ := hown
              rcases hl2 with ⟨rfl, hn0⟩ | ⟨g, cap, cur, rfl, hgb, hgc, -, -, -, -⟩
              · have hr0 : r = [] := List.length_eq_zero_iff.1 hn0
                have CF := Lib.hid (falling_nil v ts wr)
                unfold JbV.val at CF
                clear hl1 hn0 ho2
                go_wp2_with fail
                refine CF.out.mono ?_; rintro e W4 ⟨rfl, hx4⟩
                have hJ4 := hJ.ext hx4
                have hb4 := hb.trans (hx4.mono hb.size)
                have hos : (ordTo ts P k).set k (sortL (needC ts) r) = ordTo ts P k := by
                  rw [hr0]
                  show (ordTo ts P k).set k [] = _
                  have := Hgk.out
                  rw [hr0] at this
                  exact set_same this
                rw [← hos, Hos.out] at hJ4
                clear hos hr0 CF hx4 q0 q1 q2 q3 q4 q5 q6 q7 z0
                go_wp2
                go_roundw
                case rel => exact ⟨k + 1, by go_num, by omega, hb4, _, hJ4⟩
                case measure => simp [intOf]; omega
              · obtain ⟨-, sp, hgB, -, hback⟩ := own_block ho2
                have hTB : ∀ k, v.T.map (·.block) = some k → k ≠ g ∨ ts = [] := fun k hk => (cells_lt hj1.things (by intro x; simp [Th.enc]) k hk).imp (fun h => by have := hbW2.size; omega) id
                have CF := Lib.hid (falling_any v ts g 3 r.length cap r sp wr (hj1.ext hbw).things Hok.out hTB hpm.1 rfl hpm.2 hgB)
                unfold JbV.val at CF
                have Hback := Lib.hid (fun (V : World) h => hback V (sortL (needC ts) r) (sortL_len _ _) h)
                clear hl1 ho2 hTB hback hgB hpm
                generalize r.length = rl at *
                go_wp2_with fail
                refine CF.out.mono ?_; rintro e W4 ⟨rfl, hx4, hB4⟩
                have hJ4 := hJ.sort Hv.out rfl (Hback.out W4 hB4) hx4
                rw [Hos.out] at hJ4
                have hb4 := hb.trans (hx4.old hb.size (by simp; exact hgb))
                clear CF hx4 hB4 q0 q1 q2 q3 q4 q5 q6 q7 z0
                go_wp2
                go_roundw
                case rel => exact ⟨k + 1, by go_num, by omega, hb4, _, hJ4⟩
                case measure => simp [intOf]; omega
            · obtain rfl : v.x.l.lanes.length = k := by omega
              have hoe := ordTo_end ts P
              rw [Hpl.out, Hfin.out] at hoe
              rw [hoe] at hJ
              obtain ⟨rs, g1, g2, g3, g4⟩ := hJ.rows
              have hrl : rs.length = v.x.l.lanes.length := by rw [g3]; simp [laid]
              have hbe := ext_trans hb1 hbw
              have h12 := hb1.size
              have h23 := hbW2.size
              clear hoe g3
              go_wp2
              go_ret2
              refine ⟨hbe, .inr ⟨_, W2.heap.size, v.x.l.lanes.length, rs, Hn.out, by rw [hrl]; rfl, g1, g2, by omega, fun x hx k hk => ?_⟩⟩
              have := g4 x hx k hk
              omega
end Go.Proofs.Ytbpmfaibcibleaa

/- The law WagonNames returns true: the examples, and the errors. No condition. -/
import Derived.Test.YtbpmfaibcibleaaGround
import Derived.Test.YtbpmfaibcibleaaFilD
import Derived.Test.YtbpmfaibcibleaaAwkB
import Derived.Test.YtbpmfaibcibleaaStoB
import Derived.Test.YtbpmfaibcibleaaClbT
import Derived.Test.YtbpmfaibcibleaaAppH
import Derived.Test.YtbpmfaibcibleaaWaR
/- A region that keeps its order, by quiet parts (long chains of && and ||): seq_start, then seq_q for each part that only reads, seq_e at a call, seq_skip at one that is passed over, seq_end. -/
namespace Go.Dr
section
variable {P : Program} {ops : Array Oper} {Q : Exit → Act → World → Prop}
theorem seq_start {id : Nat} {l : List Oper} {a : Act} {w : World} (h : wpList P l.toArray Q l a w) : (Code.region id l.toArray false).wp P Q a w := wp_region_lit h
/-- A long region is written in two parts: `refine Dr.seq_start2 (by simp only [List.append]; rfl) ?_`. -/
theorem seq_start2 {id : Nat} {l1 l2 l : List Oper} {a : Act} {w : World} (hl : l1.append l2 = l) (h : wpList P l.toArray Q l a w) : (Code.region id (l1.append l2).toArray false).wp P Q a w := by subst hl; exact wp_region_lit h
theorem seq_quiet : ∀ (l rest : List Oper) (a : Act) (w : World), wpQuiet P ops (fun w' => w' = w) (fun a' => wpList P ops Q rest a' w) l a → wpList P ops Q (l ++ rest) a w
  | [], rest, a, w, h => h
  | o :: l, rest, a, w, h => by
    unfold wpQuiet at h
    rw [List.cons_append]
    unfold wpList
    split
    · rename_i hw
      rw [if_pos hw] at h
      exact .inl (Oper.wp_of_quiet (C := fun w' => w' = w) rfl (fun a' w' hw' hq => by subst hw'; exact seq_quiet l rest a' _ hq) h)
    · rename_i hw
      rw [if_neg hw] at h
      exact seq_quiet l rest _ w h
theorem seq_q {full l rest : List Oper} {a : Act} {w : World} (he : full = l ++ rest) (h : ∀ K : Act → Prop, (∀ a', wpList P ops Q rest a' w → K a') → wpQuiet P ops (fun w' => w' = w) K l a) : wpList P ops Q full a w := by
  subst he
  exact seq_quiet l rest a w (h _ (fun _ h => h))
theorem seq_e {o : Oper} {rest : List Oper} {a : Act} {w : World} (hw : Region.wanted o (yielded ops a.tmps) = true) (h : ∀ K : Act → World → Prop, RowKit.Hid (∀ a' w', wpList P ops Q rest a' w' → K a' w') → o.wp P a w K Q) : wpList P ops Q (o :: rest) a w := by
  unfold wpList
  rw [if_pos hw]
  exact .inl (h _ (Lib.hid (fun _ _ h => h)))
theorem seq_skip {o : Oper} {rest : List Oper} {a : Act} {w : World} (hw : Region.wanted o (yielded ops a.tmps) = false) (h : wpList P ops Q rest (a.put o.dst undef) w) : wpList P ops Q (o :: rest) a w := by
  unfold wpList
  rw [hw]
  exact h
theorem seq_end {a : Act} {w : World} (h : Q .normal a w) : wpList P ops Q [] a w := h
end
end Go.Dr

/- The law WagonNames: its walk. (Printed by mk_wnam.py.) -/
namespace Go.Wg
open Go.RowKit Go.Bs Go.Pl
def trL0 : Lo := ⟨[60, 50], 30, 1000, 800, 100, 1500, 10⟩
def trT0 : List Th := [⟨30, 20, 100, 5⟩, ⟨30, 25, 200, 2⟩, ⟨20, 30, 300, 7⟩, ⟨20, 10, 50, 2⟩]
def upT : List Th := [⟨1, 1, 0, 1⟩, ⟨1, 1, 0, 2⟩, ⟨1, 1, 0, 3⟩]
def brN : List Br := [⟨1500, 39⟩, ⟨1400, 60⟩, ⟨2000, 40⟩]
def ts5 : List Th := [⟨30, 20, 100, 5⟩, ⟨30, 25, 200, 2⟩, ⟨20, 30, 300, 7⟩, ⟨20, 10, 50, 2⟩, ⟨40, 5, 500, 6⟩]
theorem en_load : packRes trL0 trT0 true = ([[0, 1], [2, 3]], 0) := by decide +kernel
theorem en_pack : packRes trL0 upT false = ([[2, 1, 0], []], 0) := by decide +kernel
theorem en_load2 : packRes trL0 upT true = ([], 7) := by decide +kernel
theorem en_chk : checkE trL0 trT0 = 0 := by decide +kernel
theorem en_stop : stopVal trL0 trT0 [[0, 1], [2, 3]] brN = ([0, 1], 0) := by
  unfold stopVal
  rw [if_neg (by rw [en_chk]; decide), if_neg (by rw [show rightB trL0 trT0 [[0, 1], [2, 3]] = true from ev_right]; decide), if_neg (by decide +kernel)]
  decide +kernel
theorem en_falls : rightB trL0 trT0 [[1, 0], [2, 3]] = false := by
  unfold rightB
  rw [show (([([1, 0] : List Int), [2, 3]].zip trL0.lanes).all fun x => laneB trT0 x.2 x.1) = false by decide +kernel]
  simp
theorem en_whole : rightB trL0 trT0 [[0, 1], [2]] = false := by
  have h : wholeB trT0.length [[0, 1], [2]] = false := by
    unfold wholeB
    refine decide_eq_false fun e => ?_
    have h1 := congrArg List.length e
    rw [srtL_len, upto_len] at h1
    revert h1
    decide
  unfold rightB
  rw [h]
  simp
theorem en_r1 : rightE trL0 trT0 [[1, 0], [2, 3]] = false := by unfold rightE; rw [en_falls, Bool.and_false]
theorem en_r2 : rightE trL0 trT0 [[0, 1], [2]] = false := by unfold rightE; rw [en_whole, Bool.and_false]
theorem en_ax : axVal trL0 trT0 [[1, 0], [2, 3]] = (0, 0, false, 9) := by
  unfold axVal
  rw [if_neg (by rw [en_chk]; decide), if_pos en_falls]
theorem en_prv : proveB trL0 upT [0, 1, 2] = true := by decide +kernel
theorem en_lim : packRes trL0 (List.replicate 15 th0) false = ([], 3) := by
  unfold packRes
  rw [show checkE trL0 (List.replicate 15 th0) = 3 by decide +kernel]; rfl
theorem en_f0 : fillRes [] trT0 = ([], 1) := by
  unfold fillRes
  rw [show (btw (([] : List Lo).length : Int) 1 6 && ([] : List Lo).all Lo.okB) = false by decide]; rfl
theorem try_ins (l : Lo) (ts : List Th) (rest : List Int) (n : Nat) : tryL l ts rest n = packL l ts (sortL (fun a b => a - b) (rest.take n)) false := by unfold tryL; rw [insert_srt]
theorem en_by : byNeed ts5 = [1, 3, 0, 4, 2] := by decide +kernel
theorem en_m1 : manyF trL0 ts5 [1, 3, 0, 4, 2] = 3 := by
  refine many_eq (by decide) (fun k hk => ?_) (.inr ?_)
  · obtain rfl | rfl | rfl : k = 0 ∨ k = 1 ∨ k = 2 := by omega
    all_goals (rw [try_ins]; decide +kernel)
  · rw [try_ins]; decide +kernel
theorem en_m2 : manyF trL0 ts5 [4, 2] = 2 := by
  refine many_eq (by decide) (fun k hk => ?_) (.inl (by decide))
  obtain rfl | rfl : k = 0 ∨ k = 1 := by omega
  all_goals (rw [try_ins]; decide +kernel)
theorem en_b1 : bestF trL0 ts5 [1, 3, 0, 4, 2] = [[0, 1], [3]] := by
  unfold bestF
  rw [en_m1]
  show (tryL _ _ _ 3).getD [] = _
  rw [try_ins]; decide +kernel
theorem en_b2 : bestF trL0 ts5 [4, 2] = [[2, 4], []] := by
  unfold bestF
  rw [en_m2]
  show (tryL _ _ _ 2).getD [] = _
  rw [try_ins]; decide +kernel
theorem en_fill : fillRes [trL0, trL0] ts5 = ([[[0, 1], [3]], [[2, 4], []]], 0) := by
  have e1 : fillP ts5 [trL0, trL0] (byNeed ts5) = [[[0, 1], [3]], [[2, 4], []]] := by
    rw [en_by]
    show [bestF trL0 ts5 [1, 3, 0, 4, 2], bestF trL0 ts5 (List.drop (manyF trL0 ts5 [1, 3, 0, 4, 2]) [1, 3, 0, 4, 2])] = _
    rw [en_b1, en_m1]
    show [_, bestF trL0 ts5 [4, 2]] = _
    rw [en_b2]
  have e2 : fillR ts5 [trL0, trL0] (byNeed ts5) = [] := by
    rw [en_by]
    show List.drop (manyF trL0 ts5 (List.drop (manyF trL0 ts5 [1, 3, 0, 4, 2]) [1, 3, 0, 4, 2])) (List.drop (manyF trL0 ts5 [1, 3, 0, 4, 2]) [1, 3, 0, 4, 2]) = _
    rw [en_m1]
    show List.drop (manyF trL0 ts5 [4, 2]) [4, 2] = _
    rw [en_m2]; rfl
  unfold fillRes
  rw [e1, e2, show cargoE ts5 40 = 0 by decide +kernel, show (btw ([trL0, trL0].length : Int) 1 6 && [trL0, trL0].all Lo.okB) = true by decide +kernel]
  rfl
/-- rows written out -/
def litA (s : Nat) (a b : List Int) : List RwV := [⟨a, some ⟨s, 0, none⟩, a.length⟩, ⟨b, some ⟨s + 1, 0, none⟩, b.length⟩]
def litN (s : Nat) (a : List Int) : List RwV := [⟨a, some ⟨s, 0, none⟩, a.length⟩, ⟨[], none, 0⟩]
end Go.Wg
namespace Go.Proofs.Ytbpmfaibcibleaa
open Go.RowKit Go.Bs Go.Wg Go.Pl Go.Sort
theorem en_t1 : tripR 0 0 0 0 1 = (0, 1) := by decide +kernel
theorem en_t2 : tripR 1 1 0 0 201 = (0, 2) := by decide +kernel
theorem map_flat (a : List Int) : a.map (Value.int .i64) = a.flatMap Go.Bs.encI := by
  induction a with
  | nil => rfl
  | cons x l ih => rw [List.flatMap_cons, ← ih]; rfl
theorem litA_mem {W : World} {s : Nat} {a b : List Int} (n1 : Blk W s 3 (a.map (Value.int .i64))) (n2 : Blk W (s + 1) 3 (b.map (Value.int .i64))) (n3 : Blk W (s + 1 + 1) 35 [.slice (some ⟨s, 0, none⟩) a.length a.length, .slice (some ⟨s + 1, 0, none⟩) b.length b.length]) : RwM W (some ⟨s + 1 + 1, 0, none⟩) (litA s a b) := by
  refine ⟨cells_of rwv_len n3 rfl, ?_, ?_⟩
  · intro x hx
    simp only [litA, List.mem_cons, List.not_mem_nil, or_false] at hx
    rcases hx with rfl | rfl
    · exact cells_of Go.Bs.encI_len n1 (map_flat a)
    · exact cells_of Go.Bs.encI_len n2 (map_flat b)
  · intro x hx
    simp only [litA, List.mem_cons, List.not_mem_nil, or_false] at hx
    rcases hx with rfl | rfl <;> exact Nat.le_refl _
theorem litN_mem {W : World} {s : Nat} {a : List Int} (n1 : Blk W s 3 (a.map (Value.int .i64))) (n3 : Blk W (s + 1) 35 [.slice (some ⟨s, 0, none⟩) a.length a.length, .slice none 0 0]) : RwM W (some ⟨s + 1, 0, none⟩) (litN s a) := by
  refine ⟨cells_of rwv_len n3 rfl, ?_, ?_⟩
  · intro x hx
    simp only [litN, List.mem_cons, List.not_mem_nil, or_false] at hx
    rcases hx with rfl | rfl
    · exact cells_of Go.Bs.encI_len n1 (map_flat a)
    · exact Cells.nil
  · intro x hx
    simp only [litN, List.mem_cons, List.not_mem_nil, or_false] at hx
    rcases hx with rfl | rfl <;> exact Nat.le_refl _
theorem same_lit {A B : Option Addr} {c d : Nat} {rs r2 : List RwV} {P : List (List Int)} {W : World} (h1 : RwM W A rs) (h2 : RwM W B r2) (e1 : rows rs = P) (e2 : rows r2 = P) (n : Nat) (hn : rs.length = n) (hm : r2.length = n) (hn1 : n ≤ 100) (hP : ∀ r ∈ P, r.length ≤ 100) :
    Calls Try.prog 32 #[.slice A n c, .slice B n d] W fun e w' => e = .returned (.bool true) ∧ Below W.heap.size W w' := by
  have hb : ∀ {q : List RwV}, rows q = P → ∀ x ∈ q, x.r.length ≤ 1000000000 := fun {q} e x hx => by
    have := hP x.r (by rw [← e]; exact List.mem_map.2 ⟨x, hx, rfl⟩)
    omega
  have := same_any A B n n c d rs r2 W hn hm (by omega) (by omega) h1 h2 (hb e1) (hb e2)
  rwa [decide_eq_true (show rows rs = rows r2 by rw [e1, e2])] at this
theorem mk46 (w : World) : (Instr.makeSlice 46 (.int .i64 15) (.int .i64 15)).run Try.prog w = .ok (.slice (some ⟨w.heap.size, 0, none⟩) 15 15) (w.alloc (.cells (List.replicate 60 (Value.int .i64 0)).toArray 102)) := by
  obtain ⟨i0, hi, hz0, hz1, hz2⟩ := info_parts info102
  have hr := run_make (P := Try.prog) w 46 102 i0 _ Try.underlying46 hi hz0 .i64 .i64 (15 : Int) (15 : Int) (by omega) (by omega) (by rw [hz2]; omega) (by omega)
  rw [hr, hz1]
  have e : madeCells (Value.agg #[Value.int IntKind.i64 0, Value.int IntKind.i64 0, Value.int IntKind.i64 0, Value.int IntKind.i64 0]).cells (Int.toNat 15 * 4) = (List.replicate 60 (Value.int .i64 0)).toArray := by kernel_rfl
  rw [e]
  rfl
theorem wp_mk46 {o : Oper} {a : Act} {w : World} {K : Act → World → Prop} {Q : Exit → Act → World → Prop} {s t : Operand} (ho : o.op = .makeSlice 46 s t) (h1 : a.eval s = .int .i64 15) (h2 : a.eval t = .int .i64 15)
    (h : K (a.put o.dst (.slice (some ⟨w.heap.size, 0, none⟩) 15 15)) (w.alloc (.cells (List.replicate 60 (Value.int .i64 0)).toArray 102))) : o.wp Try.prog a w K Q := by
  unfold Oper.wp
  simp only [execOp, ho, h1, h2, mk46, Sem.run_bind, Sem.run_pure, Result.andThen_ok]
  exact h
set_option maxRecDepth 100000 in
set_option maxHeartbeats 10000000 in
theorem names_law (w : World) : Calls Try.prog 16 #[] w fun e w' => e = .returned (.bool true) ∧ Below w.heap.size w w' := by
  go_enter Try.func16, Try.ntmps16
  go_wp2_with fail
  refine (truck_any _).mono ?_; rintro e W1 ⟨⟨A, T, rfl, hl, ht⟩, hb⟩
  unfold LoV.val
  simp only [trL, List.length_cons, List.length_nil, Nat.zero_add, Nat.reduceAdd]
  rw [show trL.lanes = trL0.lanes from rfl] at hl
  rw [show trT = trT0 from rfl] at ht
  have hB := Blk.new W1 44 [.slice A 2 2, .int .i64 30, .int .i64 1000, .int .i64 800, .int .i64 100, .int .i64 1500, .int .i64 10]
  have hx2 := ext_alloc W1 (.cells #[.slice A 2 2, .int .i64 30, .int .i64 1000, .int .i64 800, .int .i64 100, .int .i64 1500, .int .i64 10] 44)
  go_upto_region 2 with fail
  change Blk (W1.alloc (.cells #[.slice A 2 2, .int .i64 30, .int .i64 1000, .int .i64 800, .int .i64 100, .int .i64 1500, .int .i64 10] 44)) _ _ _ at hB
  generalize W1.alloc (.cells #[.slice A 2 2, .int .i64 30, .int .i64 1000, .int .i64 800, .int .i64 100, .int .i64 1500, .int .i64 10] 44) = W2 at *
  replace hl := hl.ext hx2
  replace ht := ht.ext hx2
  replace hb := ext_trans hb hx2
  clear hx2
  have q0 : W2.cell? ⟨W1.heap.size, 0, none⟩ = _ := hB.cell rfl
  have q1 : W2.cell? ⟨W1.heap.size, 1, none⟩ = _ := hB.cell rfl
  have q2 : W2.cell? ⟨W1.heap.size, 2, none⟩ = _ := hB.cell rfl
  have q3 : W2.cell? ⟨W1.heap.size, 3, none⟩ = _ := hB.cell rfl
  have q4 : W2.cell? ⟨W1.heap.size, 4, none⟩ = _ := hB.cell rfl
  have q5 : W2.cell? ⟨W1.heap.size, 5, none⟩ = _ := hB.cell rfl
  have q6 : W2.cell? ⟨W1.heap.size, 6, none⟩ = _ := hB.cell rfl
  have CP := Lib.hid (show Calls Try.prog 28 #[.agg #[.slice A 2 2, .int .i64 30, .int .i64 1000, .int .i64 800, .int .i64 100, .int .i64 1500, .int .i64 10], .slice T 4 4] W2 (PcR trL0 trT0 true W2) from Load_any ⟨⟨trL0, A, 2⟩, T, 4⟩ trT0 W2 (show 2 ≤ _ by omega) (show 4 ≤ _ by omega) hl ht)
  go_wp2_with fail
  refine (CP.out).mono ?_; rintro e W3 ⟨hx, v, he, hv⟩
  rw [en_load] at he hv
  subst he
  obtain ⟨A3, c3, rs3, rfl, hrs3, hM3, -, -⟩ := hv
  have hn3 : rs3.length = 2 := by rw [← rows_len, hrs3]; rfl
  rw [hn3]
  have Hn3 := Lib.hid hn3
  have Hrs3 := Lib.hid hrs3
  clear q0 q1 q2 q3 q4 q5 q6
  clear CP hn3 hrs3
  replace hB := hB.ext hx
  replace hl := hl.ext hx
  replace ht := ht.ext hx
  replace hb := ext_trans hb hx
  clear hx
  have q0 : W3.cell? ⟨W1.heap.size, 0, none⟩ = _ := hB.cell rfl
  have q1 : W3.cell? ⟨W1.heap.size, 1, none⟩ = _ := hB.cell rfl
  have q2 : W3.cell? ⟨W1.heap.size, 2, none⟩ = _ := hB.cell rfl
  have q3 : W3.cell? ⟨W1.heap.size, 3, none⟩ = _ := hB.cell rfl
  have q4 : W3.cell? ⟨W1.heap.size, 4, none⟩ = _ := hB.cell rfl
  have q5 : W3.cell? ⟨W1.heap.size, 5, none⟩ = _ := hB.cell rfl
  have q6 : W3.cell? ⟨W1.heap.size, 6, none⟩ = _ := hB.cell rfl
  have hR := Blk.new W3 101 [.int .i64 1500, .int .i64 39, .int .i64 1400, .int .i64 60, .int .i64 2000, .int .i64 40]
  have nb := ext_alloc W3 (.cells #[.int .i64 1500, .int .i64 39, .int .i64 1400, .int .i64 60, .int .i64 2000, .int .i64 40] 101)
  go_wp2_with fail
  change Blk (W3.alloc (.cells #[.int .i64 1500, .int .i64 39, .int .i64 1400, .int .i64 60, .int .i64 2000, .int .i64 40] 101)) _ _ _ at hR
  generalize W3.alloc (.cells #[.int .i64 1500, .int .i64 39, .int .i64 1400, .int .i64 60, .int .i64 2000, .int .i64 40] 101) = W4 at *
  clear q0 q1 q2 q3 q4 q5 q6
  replace hB := hB.ext nb
  replace hl := hl.ext nb
  replace ht := ht.ext nb
  replace hM3 := hM3.ext nb
  replace hb := ext_trans hb nb
  clear nb
  have CP := Lib.hid (show Calls Try.prog 53 #[.agg #[.slice A 2 2, .int .i64 30, .int .i64 1000, .int .i64 800, .int .i64 100, .int .i64 1500, .int .i64 10], .slice T 4 4, .slice A3 2 c3, .slice (some ⟨W3.heap.size, 0, none⟩) 3 3] W4 (StR trL0 trT0 (rows rs3) brN W4) from Stops_any ⟨⟨trL0, A, 2⟩, T, 4⟩ trT0 A3 2 c3 rs3 (some ⟨W3.heap.size, 0, none⟩) 3 3 brN W4 (show 2 ≤ _ by omega) (show 4 ≤ _ by omega) hl ht Hn3.out (by omega) hM3 (by rw [Hrs3.out]; decide) rfl (by omega) (cells_of br_len hR rfl))
  rw [Hrs3.out] at CP
  refine (CP.out).mono ?_; rintro e W5 ⟨hx, v, he, hv⟩
  rw [en_stop] at he hv
  subst he
  obtain ⟨A5, c5, rfl, hS5⟩ := hv
  simp only [List.length_cons, List.length_nil, Nat.zero_add, Nat.reduceAdd]
  clear CP hR
  replace hB := hB.ext hx
  replace hl := hl.ext hx
  replace ht := ht.ext hx
  replace hM3 := hM3.ext hx
  replace hb := ext_trans hb hx
  clear hx
  have n1 := ((Blk.new W5 3 [.int .i64 0, .int .i64 1]).alloc (.cells #[.int .i64 2, .int .i64 3] 3)).alloc (.cells #[.slice (some ⟨W5.heap.size, 0, none⟩) 2 2, .slice (some ⟨W5.heap.size + 1, 0, none⟩) 2 2] 35)
  have n2 := (Blk.new (W5.alloc (.cells #[.int .i64 0, .int .i64 1] 3)) 3 [.int .i64 2, .int .i64 3]).alloc (.cells #[.slice (some ⟨W5.heap.size, 0, none⟩) 2 2, .slice (some ⟨W5.heap.size + 1, 0, none⟩) 2 2] 35)
  have n3 := Blk.new ((W5.alloc (.cells #[.int .i64 0, .int .i64 1] 3)).alloc (.cells #[.int .i64 2, .int .i64 3] 3)) 35 [.slice (some ⟨W5.heap.size, 0, none⟩) 2 2, .slice (some ⟨W5.heap.size + 1, 0, none⟩) 2 2]
  have nb : Below W5.heap.size W5 (((W5.alloc (.cells #[.int .i64 0, .int .i64 1] 3)).alloc (.cells #[.int .i64 2, .int .i64 3] 3)).alloc (.cells #[.slice (some ⟨W5.heap.size, 0, none⟩) 2 2, .slice (some ⟨W5.heap.size + 1, 0, none⟩) 2 2] 35)) := (((Below.refl _ _).alloc (Nat.le_refl _) _).alloc (by simp) _).alloc (by simp; omega) _
  simp only [World.size_alloc] at n2 n3
  change Blk (((W5.alloc (.cells #[.int .i64 0, .int .i64 1] 3)).alloc (.cells #[.int .i64 2, .int .i64 3] 3)).alloc (.cells #[.slice (some ⟨W5.heap.size, 0, none⟩) 2 2, .slice (some ⟨W5.heap.size + 1, 0, none⟩) 2 2] 35)) _ _ _ at n1 n2 n3
  go_wp2_with fail
  generalize (((W5.alloc (.cells #[.int .i64 0, .int .i64 1] 3)).alloc (.cells #[.int .i64 2, .int .i64 3] 3)).alloc (.cells #[.slice (some ⟨W5.heap.size, 0, none⟩) 2 2, .slice (some ⟨W5.heap.size + 1, 0, none⟩) 2 2] 35)) = W6 at *
  have hMa : RwM W6 (some ⟨W5.heap.size + 1 + 1, 0, none⟩) (litA W5.heap.size [0, 1] [2, 3]) := litA_mem n1 n2 n3
  clear n1 n2 n3
  replace hB := hB.ext nb
  replace hl := hl.ext nb
  replace ht := ht.ext nb
  replace hM3 := hM3.ext nb
  replace hS5 := hS5.ext nb
  replace hb := ext_trans hb nb
  clear nb
  have hD : ∀ r ∈ ([[0, 1], [2, 3]] : List (List Int)), r.length ≤ 100 := by decide
  have CS := Lib.hid (same_lit (c := c3) (d := 2) hM3 hMa Hrs3.out rfl 2 Hn3.out rfl (by omega) hD)
  refine (CS.out).mono ?_; rintro e W7 ⟨rfl, hx⟩
  clear CS hMa hM3 hD
  replace hB := hB.ext hx
  replace hl := hl.ext hx
  replace ht := ht.ext hx
  replace hS5 := hS5.ext hx
  replace hb := ext_trans hb hx
  clear hx Hrs3 Hn3
  have n1 := Blk.new W7 3 [.int .i64 0, .int .i64 1]
  have nb := ext_alloc W7 (.cells #[.int .i64 0, .int .i64 1] 3)
  go_wp2_with fail
  change Blk (W7.alloc (.cells #[.int .i64 0, .int .i64 1] 3)) _ _ _ at n1
  generalize W7.alloc (.cells #[.int .i64 0, .int .i64 1] 3) = W8 at *
  replace hB := hB.ext nb
  replace hl := hl.ext nb
  replace ht := ht.ext nb
  replace hS5 := hS5.ext nb
  replace hb := ext_trans hb nb
  clear nb
  have CI := Lib.hid (ints_any A5 (some ⟨W7.heap.size, 0, none⟩) 2 2 c5 2 [0, 1] [0, 1] W8 rfl rfl (by omega) (by omega) hS5 (cells_of Go.Bs.encI_len n1 rfl))
  refine (CI.out).mono ?_; rintro e W9 ⟨rfl, hx⟩
  clear CI hS5 n1
  replace hB := hB.ext hx
  replace hl := hl.ext hx
  replace ht := ht.ext hx
  replace hb := ext_trans hb hx
  clear hx
  have q0 : W9.cell? ⟨W1.heap.size, 0, none⟩ = _ := hB.cell rfl
  have q1 : W9.cell? ⟨W1.heap.size, 1, none⟩ = _ := hB.cell rfl
  have q2 : W9.cell? ⟨W1.heap.size, 2, none⟩ = _ := hB.cell rfl
  have q3 : W9.cell? ⟨W1.heap.size, 3, none⟩ = _ := hB.cell rfl
  have q4 : W9.cell? ⟨W1.heap.size, 4, none⟩ = _ := hB.cell rfl
  have q5 : W9.cell? ⟨W1.heap.size, 5, none⟩ = _ := hB.cell rfl
  have q6 : W9.cell? ⟨W1.heap.size, 6, none⟩ = _ := hB.cell rfl
  have n1 := ((Blk.new W9 3 [.int .i64 1, .int .i64 0]).alloc (.cells #[.int .i64 2, .int .i64 3] 3)).alloc (.cells #[.slice (some ⟨W9.heap.size, 0, none⟩) 2 2, .slice (some ⟨W9.heap.size + 1, 0, none⟩) 2 2] 35)
  have n2 := (Blk.new (W9.alloc (.cells #[.int .i64 1, .int .i64 0] 3)) 3 [.int .i64 2, .int .i64 3]).alloc (.cells #[.slice (some ⟨W9.heap.size, 0, none⟩) 2 2, .slice (some ⟨W9.heap.size + 1, 0, none⟩) 2 2] 35)
  have n3 := Blk.new ((W9.alloc (.cells #[.int .i64 1, .int .i64 0] 3)).alloc (.cells #[.int .i64 2, .int .i64 3] 3)) 35 [.slice (some ⟨W9.heap.size, 0, none⟩) 2 2, .slice (some ⟨W9.heap.size + 1, 0, none⟩) 2 2]
  have nb : Below W9.heap.size W9 (((W9.alloc (.cells #[.int .i64 1, .int .i64 0] 3)).alloc (.cells #[.int .i64 2, .int .i64 3] 3)).alloc (.cells #[.slice (some ⟨W9.heap.size, 0, none⟩) 2 2, .slice (some ⟨W9.heap.size + 1, 0, none⟩) 2 2] 35)) := (((Below.refl _ _).alloc (Nat.le_refl _) _).alloc (by simp) _).alloc (by simp; omega) _
  simp only [World.size_alloc] at n2 n3
  change Blk (((W9.alloc (.cells #[.int .i64 1, .int .i64 0] 3)).alloc (.cells #[.int .i64 2, .int .i64 3] 3)).alloc (.cells #[.slice (some ⟨W9.heap.size, 0, none⟩) 2 2, .slice (some ⟨W9.heap.size + 1, 0, none⟩) 2 2] 35)) _ _ _ at n1 n2 n3
  go_wp2_with fail
  generalize (((W9.alloc (.cells #[.int .i64 1, .int .i64 0] 3)).alloc (.cells #[.int .i64 2, .int .i64 3] 3)).alloc (.cells #[.slice (some ⟨W9.heap.size, 0, none⟩) 2 2, .slice (some ⟨W9.heap.size + 1, 0, none⟩) 2 2] 35)) = W10 at *
  have hMa : RwM W10 (some ⟨W9.heap.size + 1 + 1, 0, none⟩) (litA W9.heap.size [1, 0] [2, 3]) := litA_mem n1 n2 n3
  clear n1 n2 n3
  replace hB := hB.ext nb
  replace hl := hl.ext nb
  replace ht := ht.ext nb
  replace hb := ext_trans hb nb
  clear nb
  have CR := Lib.hid (show Calls Try.prog 35 #[.agg #[.slice A 2 2, .int .i64 30, .int .i64 1000, .int .i64 800, .int .i64 100, .int .i64 1500, .int .i64 10], .slice T 4 4, .slice (some ⟨W9.heap.size + 1 + 1, 0, none⟩) 2 2] W10 _ from Right_any ⟨⟨trL0, A, 2⟩, T, 4⟩ trT0 (some ⟨W9.heap.size + 1 + 1, 0, none⟩) 2 2 (litA W9.heap.size [1, 0] [2, 3]) W10 (show 2 ≤ _ by omega) (show 4 ≤ _ by omega) hl ht rfl (by omega) hMa (show 4 ≤ 1000000 by omega))
  clear q0 q1 q2 q3 q4 q5 q6
  refine (CR.out).mono ?_; rintro e W11 ⟨he, hx⟩
  rw [show rightE trL0 trT0 (rows (litA W9.heap.size [1, 0] [2, 3])) = false from en_r1] at he
  subst he
  clear CR hMa
  replace hB := hB.ext hx
  replace hl := hl.ext hx
  replace ht := ht.ext hx
  replace hb := ext_trans hb hx
  clear hx
  have q0 : W11.cell? ⟨W1.heap.size, 0, none⟩ = _ := hB.cell rfl
  have q1 : W11.cell? ⟨W1.heap.size, 1, none⟩ = _ := hB.cell rfl
  have q2 : W11.cell? ⟨W1.heap.size, 2, none⟩ = _ := hB.cell rfl
  have q3 : W11.cell? ⟨W1.heap.size, 3, none⟩ = _ := hB.cell rfl
  have q4 : W11.cell? ⟨W1.heap.size, 4, none⟩ = _ := hB.cell rfl
  have q5 : W11.cell? ⟨W1.heap.size, 5, none⟩ = _ := hB.cell rfl
  have q6 : W11.cell? ⟨W1.heap.size, 6, none⟩ = _ := hB.cell rfl
  have n1 := ((Blk.new W11 3 [.int .i64 0, .int .i64 1]).alloc (.cells #[.int .i64 2] 3)).alloc (.cells #[.slice (some ⟨W11.heap.size, 0, none⟩) 2 2, .slice (some ⟨W11.heap.size + 1, 0, none⟩) 1 1] 35)
  have n2 := (Blk.new (W11.alloc (.cells #[.int .i64 0, .int .i64 1] 3)) 3 [.int .i64 2]).alloc (.cells #[.slice (some ⟨W11.heap.size, 0, none⟩) 2 2, .slice (some ⟨W11.heap.size + 1, 0, none⟩) 1 1] 35)
  have n3 := Blk.new ((W11.alloc (.cells #[.int .i64 0, .int .i64 1] 3)).alloc (.cells #[.int .i64 2] 3)) 35 [.slice (some ⟨W11.heap.size, 0, none⟩) 2 2, .slice (some ⟨W11.heap.size + 1, 0, none⟩) 1 1]
  have nb : Below W11.heap.size W11 (((W11.alloc (.cells #[.int .i64 0, .int .i64 1] 3)).alloc (.cells #[.int .i64 2] 3)).alloc (.cells #[.slice (some ⟨W11.heap.size, 0, none⟩) 2 2, .slice (some ⟨W11.heap.size + 1, 0, none⟩) 1 1] 35)) := (((Below.refl _ _).alloc (Nat.le_refl _) _).alloc (by simp) _).alloc (by simp; omega) _
  simp only [World.size_alloc] at n2 n3
  change Blk (((W11.alloc (.cells #[.int .i64 0, .int .i64 1] 3)).alloc (.cells #[.int .i64 2] 3)).alloc (.cells #[.slice (some ⟨W11.heap.size, 0, none⟩) 2 2, .slice (some ⟨W11.heap.size + 1, 0, none⟩) 1 1] 35)) _ _ _ at n1 n2 n3
  go_wp2_with fail
  generalize (((W11.alloc (.cells #[.int .i64 0, .int .i64 1] 3)).alloc (.cells #[.int .i64 2] 3)).alloc (.cells #[.slice (some ⟨W11.heap.size, 0, none⟩) 2 2, .slice (some ⟨W11.heap.size + 1, 0, none⟩) 1 1] 35)) = W12 at *
  have hMa : RwM W12 (some ⟨W11.heap.size + 1 + 1, 0, none⟩) (litA W11.heap.size [0, 1] [2]) := litA_mem n1 n2 n3
  clear n1 n2 n3
  replace hB := hB.ext nb
  replace hl := hl.ext nb
  replace ht := ht.ext nb
  replace hb := ext_trans hb nb
  clear nb
  have CR := Lib.hid (show Calls Try.prog 35 #[.agg #[.slice A 2 2, .int .i64 30, .int .i64 1000, .int .i64 800, .int .i64 100, .int .i64 1500, .int .i64 10], .slice T 4 4, .slice (some ⟨W11.heap.size + 1 + 1, 0, none⟩) 2 2] W12 _ from Right_any ⟨⟨trL0, A, 2⟩, T, 4⟩ trT0 (some ⟨W11.heap.size + 1 + 1, 0, none⟩) 2 2 (litA W11.heap.size [0, 1] [2]) W12 (show 2 ≤ _ by omega) (show 4 ≤ _ by omega) hl ht rfl (by omega) hMa (show 3 ≤ 1000000 by omega))
  clear q0 q1 q2 q3 q4 q5 q6
  refine (CR.out).mono ?_; rintro e W13 ⟨he, hx⟩
  rw [show rightE trL0 trT0 (rows (litA W11.heap.size [0, 1] [2])) = false from en_r2] at he
  subst he
  clear CR hMa
  replace hB := hB.ext hx
  replace hl := hl.ext hx
  replace ht := ht.ext hx
  replace hb := ext_trans hb hx
  clear hx
  have hU := Blk.new W13 102 [.int .i64 1, .int .i64 1, .int .i64 0, .int .i64 1, .int .i64 1, .int .i64 1, .int .i64 0, .int .i64 2, .int .i64 1, .int .i64 1, .int .i64 0, .int .i64 3]
  have nb := ext_alloc W13 (.cells #[.int .i64 1, .int .i64 1, .int .i64 0, .int .i64 1, .int .i64 1, .int .i64 1, .int .i64 0, .int .i64 2, .int .i64 1, .int .i64 1, .int .i64 0, .int .i64 3] 102)
  go_upto_region 7 with fail
  change Blk (W13.alloc (.cells #[.int .i64 1, .int .i64 1, .int .i64 0, .int .i64 1, .int .i64 1, .int .i64 1, .int .i64 0, .int .i64 2, .int .i64 1, .int .i64 1, .int .i64 0, .int .i64 3] 102)) _ _ _ at hU
  generalize W13.alloc (.cells #[.int .i64 1, .int .i64 1, .int .i64 0, .int .i64 1, .int .i64 1, .int .i64 1, .int .i64 0, .int .i64 2, .int .i64 1, .int .i64 1, .int .i64 0, .int .i64 3] 102) = W14 at *
  replace hB := hB.ext nb
  replace hl := hl.ext nb
  replace ht := ht.ext nb
  replace hb := ext_trans hb nb
  clear nb
  obtain ⟨UB, hUB⟩ : ∃ b, W13.heap.size = b := ⟨_, rfl⟩
  rw [hUB] at hU ⊢
  clear hUB
  have q0 : W14.cell? ⟨W1.heap.size, 0, none⟩ = _ := hB.cell rfl
  have q1 : W14.cell? ⟨W1.heap.size, 1, none⟩ = _ := hB.cell rfl
  have q2 : W14.cell? ⟨W1.heap.size, 2, none⟩ = _ := hB.cell rfl
  have q3 : W14.cell? ⟨W1.heap.size, 3, none⟩ = _ := hB.cell rfl
  have q4 : W14.cell? ⟨W1.heap.size, 4, none⟩ = _ := hB.cell rfl
  have q5 : W14.cell? ⟨W1.heap.size, 5, none⟩ = _ := hB.cell rfl
  have q6 : W14.cell? ⟨W1.heap.size, 6, none⟩ = _ := hB.cell rfl
  have CP := Lib.hid (show Calls Try.prog 25 #[.agg #[.slice A 2 2, .int .i64 30, .int .i64 1000, .int .i64 800, .int .i64 100, .int .i64 1500, .int .i64 10], .slice (some ⟨UB, 0, none⟩) 3 3] W14 (PcR trL0 upT false W14) from Pack_any ⟨⟨trL0, A, 2⟩, some ⟨UB, 0, none⟩, 3⟩ upT W14 (show 2 ≤ _ by omega) (show 3 ≤ _ by omega) hl (cells_of th_len hU rfl))
  go_wp2_with fail
  refine (CP.out).mono ?_; rintro e W15 ⟨hx, v, he, hv⟩
  rw [en_pack] at he hv
  subst he
  clear q0 q1 q2 q3 q4 q5 q6
  replace hB := hB.ext hx
  replace hl := hl.ext hx
  replace ht := ht.ext hx
  replace hU := hU.ext hx
  replace hb := ext_trans hb hx
  clear hx CP
  obtain ⟨A7, c7, rs7, rfl, hrs7, hM7, -, -⟩ := hv
  have hn7 : rs7.length = 2 := by rw [← rows_len, hrs7]; rfl
  rw [hn7]
  have Hn7 := Lib.hid hn7
  have Hrs7 := Lib.hid hrs7
  clear hn7 hrs7
  have q0 : W15.cell? ⟨W1.heap.size, 0, none⟩ = _ := hB.cell rfl
  have q1 : W15.cell? ⟨W1.heap.size, 1, none⟩ = _ := hB.cell rfl
  have q2 : W15.cell? ⟨W1.heap.size, 2, none⟩ = _ := hB.cell rfl
  have q3 : W15.cell? ⟨W1.heap.size, 3, none⟩ = _ := hB.cell rfl
  have q4 : W15.cell? ⟨W1.heap.size, 4, none⟩ = _ := hB.cell rfl
  have q5 : W15.cell? ⟨W1.heap.size, 5, none⟩ = _ := hB.cell rfl
  have q6 : W15.cell? ⟨W1.heap.size, 6, none⟩ = _ := hB.cell rfl
  have CP := Lib.hid (show Calls Try.prog 28 #[.agg #[.slice A 2 2, .int .i64 30, .int .i64 1000, .int .i64 800, .int .i64 100, .int .i64 1500, .int .i64 10], .slice (some ⟨UB, 0, none⟩) 3 3] W15 (PcR trL0 upT true W15) from Load_any ⟨⟨trL0, A, 2⟩, some ⟨UB, 0, none⟩, 3⟩ upT W15 (show 2 ≤ _ by omega) (show 3 ≤ _ by omega) hl (cells_of th_len hU rfl))
  go_wp2_with fail
  refine (CP.out).mono ?_; rintro e W16 ⟨hx, v, he, hv⟩
  rw [en_load2] at he hv
  subst he
  clear q0 q1 q2 q3 q4 q5 q6
  replace hB := hB.ext hx
  replace hl := hl.ext hx
  replace ht := ht.ext hx
  replace hU := hU.ext hx
  replace hM7 := hM7.ext hx
  replace hb := ext_trans hb hx
  clear hx CP
  obtain ⟨A8, c8, rs8, rfl, hrs8, -, -, -⟩ := hv
  have hn8 : rs8.length = 0 := by rw [← rows_len, hrs8]; rfl
  rw [hn8]
  clear hn8 hrs8
  have q0 : W16.cell? ⟨W1.heap.size, 0, none⟩ = _ := hB.cell rfl
  have q1 : W16.cell? ⟨W1.heap.size, 1, none⟩ = _ := hB.cell rfl
  have q2 : W16.cell? ⟨W1.heap.size, 2, none⟩ = _ := hB.cell rfl
  have q3 : W16.cell? ⟨W1.heap.size, 3, none⟩ = _ := hB.cell rfl
  have q4 : W16.cell? ⟨W1.heap.size, 4, none⟩ = _ := hB.cell rfl
  have q5 : W16.cell? ⟨W1.heap.size, 5, none⟩ = _ := hB.cell rfl
  have q6 : W16.cell? ⟨W1.heap.size, 6, none⟩ = _ := hB.cell rfl
  have n1 := ((Blk.new W16 3 [.int .i64 1, .int .i64 0]).alloc (.cells #[.int .i64 2, .int .i64 3] 3)).alloc (.cells #[.slice (some ⟨W16.heap.size, 0, none⟩) 2 2, .slice (some ⟨W16.heap.size + 1, 0, none⟩) 2 2] 35)
  have n2 := (Blk.new (W16.alloc (.cells #[.int .i64 1, .int .i64 0] 3)) 3 [.int .i64 2, .int .i64 3]).alloc (.cells #[.slice (some ⟨W16.heap.size, 0, none⟩) 2 2, .slice (some ⟨W16.heap.size + 1, 0, none⟩) 2 2] 35)
  have n3 := Blk.new ((W16.alloc (.cells #[.int .i64 1, .int .i64 0] 3)).alloc (.cells #[.int .i64 2, .int .i64 3] 3)) 35 [.slice (some ⟨W16.heap.size, 0, none⟩) 2 2, .slice (some ⟨W16.heap.size + 1, 0, none⟩) 2 2]
  have nb : Below W16.heap.size W16 (((W16.alloc (.cells #[.int .i64 1, .int .i64 0] 3)).alloc (.cells #[.int .i64 2, .int .i64 3] 3)).alloc (.cells #[.slice (some ⟨W16.heap.size, 0, none⟩) 2 2, .slice (some ⟨W16.heap.size + 1, 0, none⟩) 2 2] 35)) := (((Below.refl _ _).alloc (Nat.le_refl _) _).alloc (by simp) _).alloc (by simp; omega) _
  simp only [World.size_alloc] at n2 n3
  change Blk (((W16.alloc (.cells #[.int .i64 1, .int .i64 0] 3)).alloc (.cells #[.int .i64 2, .int .i64 3] 3)).alloc (.cells #[.slice (some ⟨W16.heap.size, 0, none⟩) 2 2, .slice (some ⟨W16.heap.size + 1, 0, none⟩) 2 2] 35)) _ _ _ at n1 n2 n3
  go_wp2_with fail
  generalize (((W16.alloc (.cells #[.int .i64 1, .int .i64 0] 3)).alloc (.cells #[.int .i64 2, .int .i64 3] 3)).alloc (.cells #[.slice (some ⟨W16.heap.size, 0, none⟩) 2 2, .slice (some ⟨W16.heap.size + 1, 0, none⟩) 2 2] 35)) = W17 at *
  have hMa : RwM W17 (some ⟨W16.heap.size + 1 + 1, 0, none⟩) (litA W16.heap.size [1, 0] [2, 3]) := litA_mem n1 n2 n3
  clear n1 n2 n3
  replace hB := hB.ext nb
  replace hl := hl.ext nb
  replace ht := ht.ext nb
  replace hU := hU.ext nb
  replace hM7 := hM7.ext nb
  replace hb := ext_trans hb nb
  clear nb
  have CR := Lib.hid (show Calls Try.prog 37 #[.agg #[.slice A 2 2, .int .i64 30, .int .i64 1000, .int .i64 800, .int .i64 100, .int .i64 1500, .int .i64 10], .slice T 4 4, .slice (some ⟨W16.heap.size + 1 + 1, 0, none⟩) 2 2] W17 _ from Axles_any ⟨⟨trL0, A, 2⟩, T, 4⟩ trT0 (some ⟨W16.heap.size + 1 + 1, 0, none⟩) 2 2 (litA W16.heap.size [1, 0] [2, 3]) W17 (show 2 ≤ _ by omega) (show 4 ≤ _ by omega) hl ht rfl (by omega) hMa (show 4 ≤ 1000000 by omega))
  clear q0 q1 q2 q3 q4 q5 q6
  refine (CR.out).mono ?_; rintro e W18 ⟨he, hx⟩
  rw [show axVal trL0 trT0 (rows (litA W16.heap.size [1, 0] [2, 3])) = _ from en_ax] at he
  subst he
  clear CR hMa
  replace hB := hB.ext hx
  replace hl := hl.ext hx
  replace ht := ht.ext hx
  replace hU := hU.ext hx
  replace hM7 := hM7.ext hx
  replace hb := ext_trans hb hx
  clear hx
  dsimp only
  go_wp2_with fail
  refine (Trip_any 0 0 0 0 1 W18).mono ?_; rintro e W19 ⟨he, hx⟩
  rw [en_t1] at he
  subst he
  replace hB := hB.ext hx
  replace hl := hl.ext hx
  replace ht := ht.ext hx
  replace hU := hU.ext hx
  replace hM7 := hM7.ext hx
  replace hb := ext_trans hb hx
  clear hx
  dsimp only
  go_wp2_with fail
  refine (Trip_any 1 1 0 0 201 W19).mono ?_; rintro e W20 ⟨he, hx⟩
  rw [en_t2] at he
  subst he
  replace hB := hB.ext hx
  replace hl := hl.ext hx
  replace ht := ht.ext hx
  replace hU := hU.ext hx
  replace hM7 := hM7.ext hx
  replace hb := ext_trans hb hx
  clear hx
  dsimp only
  go_upto_region 12 with fail
  refine Dr.wp_region_plan 8 [] (.q [0] (.e1 1 (.e1 2 (.q [3, 4, 5, 6, 7] .done)))) (by kernel_rfl) (by kernel_rfl) ?_
  have nb := ext_drew W20
  replace hB := hB.ext nb
  replace hl := hl.ext nb
  replace ht := ht.ext nb
  replace hU := hU.ext nb
  replace hM7 := hM7.ext nb
  replace hb := ext_trans hb nb
  clear nb
  generalize World.drew W20 = W21 at *
  have q0 := Dr.cell0 (hB.cell (i := 0) rfl)
  have q1 := Dr.cell0 (hB.cell (i := 1) rfl)
  have q2 := Dr.cell0 (hB.cell (i := 2) rfl)
  have q3 := Dr.cell0 (hB.cell (i := 3) rfl)
  have q4 := Dr.cell0 (hB.cell (i := 4) rfl)
  have q5 := Dr.cell0 (hB.cell (i := 5) rfl)
  have q6 := Dr.cell0 (hB.cell (i := 6) rfl)
  with_reducible refine Dr.plan_q (l := [_]) (by with_unfolding_all exact rfl) (fun K hK => ?_)
  iterate 1 (go_big_quiet_step (fail))
  refine wpQuiet_nil (hK _ ?_); clear hK K
  clear q0 q1 q2 q3 q4 q5 q6
  have hZ := Blk.new W21 102 (List.replicate 60 (Value.int .i64 0))
  have nb := ext_alloc W21 (.cells (List.replicate 60 (Value.int .i64 0)).toArray 102)
  refine Dr.plan_e rfl (by rfl) (fun K hK => ?_)
  refine wp_mk46 rfl rfl rfl ?_
  refine hK _ _ (.of nb) ?_; clear hK K
  go_frame
  change Blk (W21.alloc (.cells (List.replicate 60 (Value.int .i64 0)).toArray 102)) _ _ _ at hZ
  generalize W21.alloc (.cells (List.replicate 60 (Value.int .i64 0)).toArray 102) = W22 at *
  replace hB := hB.ext nb
  replace hl := hl.ext nb
  replace ht := ht.ext nb
  replace hU := hU.ext nb
  replace hM7 := hM7.ext nb
  replace hb := ext_trans hb nb
  clear nb
  have CP := Lib.hid (show Calls Try.prog 25 #[.agg #[.slice A 2 2, .int .i64 30, .int .i64 1000, .int .i64 800, .int .i64 100, .int .i64 1500, .int .i64 10], .slice (some ⟨W21.heap.size, 0, none⟩) 15 15] W22 (PcR trL0 (List.replicate 15 th0) false W22) from Pack_any ⟨⟨trL0, A, 2⟩, some ⟨W21.heap.size, 0, none⟩, 15⟩ (List.replicate 15 th0) W22 (show 2 ≤ _ by omega) (show 15 ≤ _ by omega) hl (cells_of th_len hZ rfl))
  refine Dr.plan_e rfl (by rfl) (fun K hK => ?_)
  go_wp2_with fail
  refine (CP.out).mono ?_; rintro e W23 ⟨hx, v, he, hv⟩
  rw [en_lim] at he hv
  subst he
  refine hK _ _ (.of hx) ?_; clear hK K
  obtain ⟨A9, c9, rs9, rfl, hrs9, -, -, -⟩ := hv
  have hn9 : rs9.length = 0 := by rw [← rows_len, hrs9]; rfl
  rw [hn9]
  clear hn9 hrs9 CP hZ
  replace hB := hB.ext hx
  replace hl := hl.ext hx
  replace ht := ht.ext hx
  replace hU := hU.ext hx
  replace hM7 := hM7.ext hx
  replace hb := ext_trans hb hx
  clear hx
  with_reducible refine Dr.plan_q (l := [_, _, _, _, _]) (by with_unfolding_all exact rfl) (fun K hK => ?_)
  iterate 5 (go_big_quiet_step (fail))
  refine wpQuiet_nil (hK _ ?_); clear hK K
  refine Dr.plan_end rfl ?_
  have CP := Lib.hid (show Calls Try.prog 59 #[.slice none 0 0, .slice T 4 4] W23 (FlR (([] : List LoV).map LoV.l) trT0 W23) from Fill_any none 0 0 [] T 4 4 trT0 W23 rfl (by omega) ⟨Cells.nil, by simp⟩ (by simp) rfl (by omega) ht (by omega))
  rw [List.map_nil] at CP
  go_wp2_with fail
  refine (CP.out).mono ?_; rintro e W24 ⟨hx, v, he, hv⟩
  rw [en_f0] at he hv
  subst he
  clear CP hv
  replace hB := hB.ext hx
  replace hl := hl.ext hx
  replace ht := ht.ext hx
  replace hU := hU.ext hx
  replace hM7 := hM7.ext hx
  replace hb := ext_trans hb hx
  clear hx
  go_upto_region 14 with fail
  go_cut [24, 25] from 132 to 142 (fun v e W => e = .int .i64 0 ∧ PksV W v [[[0, 1], [3]], [[2, 4], []]] ∧ Below W24.heap.size W24 W)
  case first =>
    refine Dr.Any.wp_region_plan 14 (Dr.Any.from_ W24.drew.heap.size) (.q [0, 1, 3, 5] (.e3 2 (.e2 4 (.e1 6 (.e1 7 (.e1 8 (.q [9, 10, 11, 12, 13] .done)))) 6 (.e1 4 (.e1 7 (.e1 8 (.q [9, 10, 11, 12, 13] .done))))) 4 (.e2 2 (.e1 6 (.e1 7 (.e1 8 (.q [9, 10, 11, 12, 13] .done)))) 6 (.e2 2 (.e1 7 (.e1 8 (.q [9, 10, 11, 12, 13] .done))) 7 (.e1 2 (.e1 8 (.q [9, 10, 11, 12, 13] .done))))) 6 (.e2 2 (.e1 4 (.e1 7 (.e1 8 (.q [9, 10, 11, 12, 13] .done)))) 4 (.e2 2 (.e1 7 (.e1 8 (.q [9, 10, 11, 12, 13] .done))) 7 (.e1 2 (.e1 8 (.q [9, 10, 11, 12, 13] .done))))))) (by kernel_rfl) (by kernel_rfl) ?_
    have hbY := ext_drew W24
    replace hB := hB.ext hbY
    replace hl := hl.ext hbY
    replace ht := ht.ext hbY
    generalize World.drew W24 = Y at *
    have HbY := Lib.hid hbY
    have hsY := hbY.size
    clear hbY hM7 hU hb
    have q0 := Dr.Any.cls_cell (M := Dr.Any.from_ Y.heap.size) (hB.cell (i := 0) rfl) (by rw [Dr.Any.mem_from]; have := hB.lt; simp only; omega)
    have q1 := Dr.Any.cls_cell (M := Dr.Any.from_ Y.heap.size) (hB.cell (i := 1) rfl) (by rw [Dr.Any.mem_from]; have := hB.lt; simp only; omega)
    have q2 := Dr.Any.cls_cell (M := Dr.Any.from_ Y.heap.size) (hB.cell (i := 2) rfl) (by rw [Dr.Any.mem_from]; have := hB.lt; simp only; omega)
    have q3 := Dr.Any.cls_cell (M := Dr.Any.from_ Y.heap.size) (hB.cell (i := 3) rfl) (by rw [Dr.Any.mem_from]; have := hB.lt; simp only; omega)
    have q4 := Dr.Any.cls_cell (M := Dr.Any.from_ Y.heap.size) (hB.cell (i := 4) rfl) (by rw [Dr.Any.mem_from]; have := hB.lt; simp only; omega)
    have q5 := Dr.Any.cls_cell (M := Dr.Any.from_ Y.heap.size) (hB.cell (i := 5) rfl) (by rw [Dr.Any.mem_from]; have := hB.lt; simp only; omega)
    have q6 := Dr.Any.cls_cell (M := Dr.Any.from_ Y.heap.size) (hB.cell (i := 6) rfl) (by rw [Dr.Any.mem_from]; have := hB.lt; simp only; omega)
    with_reducible refine Dr.Any.plan_q (l := [_, _, _, _]) (by with_unfolding_all exact rfl) (fun K hK => ?_)
    iterate 4 (go_big_quiet_step (fail))
    refine wpQuiet_nil (hK _ ?_); clear hK K
    clear q0 q1 q2 q3 q4 q5 q6 hB
    have ho0 : OwnL Y Y.heap.size 102 4 Th.enc (.slice none 0 0) ([] : List Th) := OwnL.nil
    have CFi := Lib.hid (fun (V : World) (Lb : Nat) (T5 : Option Addr) (c5 : Nat) (hV : Below Y.heap.size Y V) (hL : Blk V Lb 44 [.slice A 2 2, .int .i64 30, .int .i64 1000, .int .i64 800, .int .i64 100, .int .i64 1500, .int .i64 10, .slice A 2 2, .int .i64 30, .int .i64 1000, .int .i64 800, .int .i64 100, .int .i64 1500, .int .i64 10]) (h5 : Cells V T5 4 Th.enc ts5) => (Fill_any (some ⟨Lb, 0, none⟩) 2 2 [⟨trL0, A, 2⟩, ⟨trL0, A, 2⟩] T5 5 c5 ts5 V rfl (by omega) ⟨cells_of lov_len hL rfl, by
      intro x hx
      simp only [List.mem_cons, List.not_mem_nil, or_false, or_self] at hx
      rw [hx]
      exact hl.ext hV⟩ (by
      intro x hx
      simp only [List.mem_cons, List.not_mem_nil, or_false, or_self] at hx
      rw [hx]
      exact (show 2 ≤ 1000000 by omega)) rfl (by omega) h5 (by omega) : Calls Try.prog 59 _ V (FlR [trL0, trL0] ts5 V)))
    clear hl
    have hb0 : Below Y.heap.size Y Y := Below.refl _ _
    refine Dr.Any.plan_e3 ?_ ?_ ?_
    · refine Dr.Any.plan_e rfl (by rfl) (fun K hK => ?_)
      have hL := Blk.new Y 44 [.slice A 2 2, .int .i64 30, .int .i64 1000, .int .i64 800, .int .i64 100, .int .i64 1500, .int .i64 10, .slice A 2 2, .int .i64 30, .int .i64 1000, .int .i64 800, .int .i64 100, .int .i64 1500, .int .i64 10]
      have hx := ext_alloc Y (.cells #[.slice A 2 2, .int .i64 30, .int .i64 1000, .int .i64 800, .int .i64 100, .int .i64 1500, .int .i64 10, .slice A 2 2, .int .i64 30, .int .i64 1000, .int .i64 800, .int .i64 100, .int .i64 1500, .int .i64 10] 44)
      go_wp2
      refine hK _ _ (.of (ext_alloc _ _)) ?_; clear hK K
      change Blk (Y.alloc (.cells #[.slice A 2 2, .int .i64 30, .int .i64 1000, .int .i64 800, .int .i64 100, .int .i64 1500, .int .i64 10, .slice A 2 2, .int .i64 30, .int .i64 1000, .int .i64 800, .int .i64 100, .int .i64 1500, .int .i64 10] 44)) _ _ _ at hL
      change Below Y.heap.size Y (Y.alloc (.cells #[.slice A 2 2, .int .i64 30, .int .i64 1000, .int .i64 800, .int .i64 100, .int .i64 1500, .int .i64 10, .slice A 2 2, .int .i64 30, .int .i64 1000, .int .i64 800, .int .i64 100, .int .i64 1500, .int .i64 10] 44)) at hx
      generalize Y.alloc (.cells #[.slice A 2 2, .int .i64 30, .int .i64 1000, .int .i64 800, .int .i64 100, .int .i64 1500, .int .i64 10, .slice A 2 2, .int .i64 30, .int .i64 1000, .int .i64 800, .int .i64 100, .int .i64 1500, .int .i64 10] 44) = U1 at *
      have hb1 := hb0.trans (hx.mono hb0.size)
      clear hx
      refine Dr.Any.plan_e2 ?_ ?_
      · refine Dr.Any.plan_e rfl (by rfl) (fun K hK => ?_)
        refine app_row_op Th.enc 46 102 4 32 et46 (by decide) (by decide) th_len th_one _ _ rfl U1.heap.size _ [] rfl OwnL.nil T 4 4 trT0 rfl rfl (ht.ext hb1) (by simp) (Nat.le_refl _) (fun v1 U2 ho1 hx hg1 => ?_)
        refine hK _ _ (.of hx) ?_; clear hK K
        go_frame
        rw [List.nil_append] at ho1
        have hne : (some Y.heap.size : Option Nat) ≠ v1.ownBlock := fun e => by have h9 := (ho1.lt e.symm).1; have h8 := hL.lt; omega
        have hb2 := hb1.trans (hx.mono hb1.size)
        replace hL := hL.ext hx
        have HoB := Lib.hid (show Y.heap.size ≤ U1.heap.size from hb1.size)
        clear hx hg1
        refine Dr.Any.plan_e rfl (by rfl) (fun K hK => ?_)
        have hT := Blk.new U2 102 [.int .i64 40, .int .i64 5, .int .i64 500, .int .i64 6]
        have hx := ext_alloc U2 (.cells #[.int .i64 40, .int .i64 5, .int .i64 500, .int .i64 6] 102)
        go_wp2
        refine hK _ _ (.of (ext_alloc _ _)) ?_; clear hK K
        change Blk (U2.alloc (.cells #[.int .i64 40, .int .i64 5, .int .i64 500, .int .i64 6] 102)) _ _ _ at hT
        change Below U2.heap.size U2 (U2.alloc (.cells #[.int .i64 40, .int .i64 5, .int .i64 500, .int .i64 6] 102)) at hx
        generalize U2.alloc (.cells #[.int .i64 40, .int .i64 5, .int .i64 500, .int .i64 6] 102) = U3 at *
        have hb3 := hb2.trans (hx.mono hb2.size)
        replace hL := hL.ext hx
        replace ho1 := ho1.ext hx
        clear hx
        refine Dr.Any.plan_e rfl (by rfl) (fun K hK => ?_)
        refine app_row_op Th.enc 46 102 4 32 et46 (by decide) (by decide) th_len th_one _ _ rfl Y.heap.size _ trT0 rfl (ho1.lower HoB.out) (some ⟨U2.heap.size, 0, none⟩) 1 1 [⟨40, 5, 500, 6⟩] rfl rfl (cells_of th_len hT rfl) (by show 4 + 1 ≤ _; omega) hb3.size (fun v2 U4 ho2 hx hg2 => ?_)
        refine hK _ _ (Dr.Any.Bel.grown hg2 (fun k hk => ((ho1.lower HoB.out).lt hk).1)) ?_; clear hK K
        go_frame
        rw [show trT0 ++ [(⟨40, 5, 500, 6⟩ : Th)] = ts5 from rfl] at ho2
        replace hL : Blk U4 Y.heap.size 44 _ := (hg2.block _ hL.lt hne).trans hL
        have hb4 := hb3.trans hx
        clear hx hT ho1
        obtain ⟨A5, c5, e5, -, -, h5⟩ := ho2.cells th_len
        subst e5
        clear ho2 hg2
        have CF := Lib.hid (CFi.out U4 (Y.heap.size) A5 c5 hb4 hL h5)
        clear CFi hL h5
        refine Dr.Any.plan_e rfl (by rfl) (fun K hK => ?_)
        go_wp2_with fail
        refine CF.out.mono ?_; rintro e Uz ⟨hx, v, he, hv⟩
        rw [show fillRes (List.map LoV.l [(⟨trL0, A, 2⟩ : LoV), ⟨trL0, A, 2⟩]) ts5 = _ from en_fill] at he hv
        subst he
        refine hK _ _ (.of hx) ?_; clear hK K
        have hbz := HbY.out.trans ((hb4.trans (hx.mono hb4.size)).mono hsY)
        have HV := Lib.hid hv
        clear CF hx hv
        with_reducible refine Dr.Any.plan_q (l := [_, _, _, _, _]) (by with_unfolding_all exact rfl) (fun K hK => ?_)
        iterate 5 (go_big_quiet_step (fail))
        refine wpQuiet_nil (hK _ ?_); clear hK K
        refine Dr.Any.plan_end rfl ?_
        go_wp2
        go_meet
        case rel => exact ⟨rfl, HV.out, hbz⟩
      · refine Dr.Any.plan_e rfl (by rfl) (fun K hK => ?_)
        have hT := Blk.new U1 102 [.int .i64 40, .int .i64 5, .int .i64 500, .int .i64 6]
        have hx := ext_alloc U1 (.cells #[.int .i64 40, .int .i64 5, .int .i64 500, .int .i64 6] 102)
        go_wp2
        refine hK _ _ (.of (ext_alloc _ _)) ?_; clear hK K
        change Blk (U1.alloc (.cells #[.int .i64 40, .int .i64 5, .int .i64 500, .int .i64 6] 102)) _ _ _ at hT
        change Below U1.heap.size U1 (U1.alloc (.cells #[.int .i64 40, .int .i64 5, .int .i64 500, .int .i64 6] 102)) at hx
        generalize U1.alloc (.cells #[.int .i64 40, .int .i64 5, .int .i64 500, .int .i64 6] 102) = U2 at *
        have hb2 := hb1.trans (hx.mono hb1.size)
        replace hL := hL.ext hx
        clear hx
        refine Dr.Any.plan_e rfl (by rfl) (fun K hK => ?_)
        refine app_row_op Th.enc 46 102 4 32 et46 (by decide) (by decide) th_len th_one _ _ rfl U2.heap.size _ [] rfl OwnL.nil T 4 4 trT0 rfl rfl (ht.ext hb2) (by simp) (Nat.le_refl _) (fun v1 U3 ho1 hx hg1 => ?_)
        refine hK _ _ (.of hx) ?_; clear hK K
        go_frame
        rw [List.nil_append] at ho1
        have hne : (some Y.heap.size : Option Nat) ≠ v1.ownBlock := fun e => by have h9 := (ho1.lt e.symm).1; have h8 := hL.lt; omega
        have hb3 := hb2.trans (hx.mono hb2.size)
        replace hL := hL.ext hx
        replace hT := hT.ext hx
        have HoB := Lib.hid (show Y.heap.size ≤ U2.heap.size from hb2.size)
        clear hx hg1
        refine Dr.Any.plan_e rfl (by rfl) (fun K hK => ?_)
        refine app_row_op Th.enc 46 102 4 32 et46 (by decide) (by decide) th_len th_one _ _ rfl Y.heap.size _ trT0 rfl (ho1.lower HoB.out) (some ⟨U1.heap.size, 0, none⟩) 1 1 [⟨40, 5, 500, 6⟩] rfl rfl (cells_of th_len hT rfl) (by show 4 + 1 ≤ _; omega) hb3.size (fun v2 U4 ho2 hx hg2 => ?_)
        refine hK _ _ (Dr.Any.Bel.grown hg2 (fun k hk => ((ho1.lower HoB.out).lt hk).1)) ?_; clear hK K
        go_frame
        rw [show trT0 ++ [(⟨40, 5, 500, 6⟩ : Th)] = ts5 from rfl] at ho2
        replace hL : Blk U4 Y.heap.size 44 _ := (hg2.block _ hL.lt hne).trans hL
        have hb4 := hb3.trans hx
        clear hx hT ho1
        obtain ⟨A5, c5, e5, -, -, h5⟩ := ho2.cells th_len
        subst e5
        clear ho2 hg2
        have CF := Lib.hid (CFi.out U4 (Y.heap.size) A5 c5 hb4 hL h5)
        clear CFi hL h5
        refine Dr.Any.plan_e rfl (by rfl) (fun K hK => ?_)
        go_wp2_with fail
        refine CF.out.mono ?_; rintro e Uz ⟨hx, v, he, hv⟩
        rw [show fillRes (List.map LoV.l [(⟨trL0, A, 2⟩ : LoV), ⟨trL0, A, 2⟩]) ts5 = _ from en_fill] at he hv
        subst he
        refine hK _ _ (.of hx) ?_; clear hK K
        have hbz := HbY.out.trans ((hb4.trans (hx.mono hb4.size)).mono hsY)
        have HV := Lib.hid hv
        clear CF hx hv
        with_reducible refine Dr.Any.plan_q (l := [_, _, _, _, _]) (by with_unfolding_all exact rfl) (fun K hK => ?_)
        iterate 5 (go_big_quiet_step (fail))
        refine wpQuiet_nil (hK _ ?_); clear hK K
        refine Dr.Any.plan_end rfl ?_
        go_wp2
        go_meet
        case rel => exact ⟨rfl, HV.out, hbz⟩
    · refine Dr.Any.plan_e rfl (by rfl) (fun K hK => ?_)
      refine app_row_op Th.enc 46 102 4 32 et46 (by decide) (by decide) th_len th_one _ _ rfl Y.heap.size _ [] rfl OwnL.nil T 4 4 trT0 rfl rfl (ht.ext hb0) (by simp) (Nat.le_refl _) (fun v1 U1 ho1 hx hg1 => ?_)
      refine hK _ _ (.of hx) ?_; clear hK K
      go_frame
      rw [List.nil_append] at ho1
      have hb1 := hb0.trans (hx.mono hb0.size)
      have HoB := Lib.hid (show Y.heap.size ≤ Y.heap.size from hb0.size)
      clear hx hg1
      refine Dr.Any.plan_e2 ?_ ?_
      · refine Dr.Any.plan_e rfl (by rfl) (fun K hK => ?_)
        have hL := Blk.new U1 44 [.slice A 2 2, .int .i64 30, .int .i64 1000, .int .i64 800, .int .i64 100, .int .i64 1500, .int .i64 10, .slice A 2 2, .int .i64 30, .int .i64 1000, .int .i64 800, .int .i64 100, .int .i64 1500, .int .i64 10]
        have hx := ext_alloc U1 (.cells #[.slice A 2 2, .int .i64 30, .int .i64 1000, .int .i64 800, .int .i64 100, .int .i64 1500, .int .i64 10, .slice A 2 2, .int .i64 30, .int .i64 1000, .int .i64 800, .int .i64 100, .int .i64 1500, .int .i64 10] 44)
        go_wp2
        refine hK _ _ (.of (ext_alloc _ _)) ?_; clear hK K
        change Blk (U1.alloc (.cells #[.slice A 2 2, .int .i64 30, .int .i64 1000, .int .i64 800, .int .i64 100, .int .i64 1500, .int .i64 10, .slice A 2 2, .int .i64 30, .int .i64 1000, .int .i64 800, .int .i64 100, .int .i64 1500, .int .i64 10] 44)) _ _ _ at hL
        change Below U1.heap.size U1 (U1.alloc (.cells #[.slice A 2 2, .int .i64 30, .int .i64 1000, .int .i64 800, .int .i64 100, .int .i64 1500, .int .i64 10, .slice A 2 2, .int .i64 30, .int .i64 1000, .int .i64 800, .int .i64 100, .int .i64 1500, .int .i64 10] 44)) at hx
        have hne : (some U1.heap.size : Option Nat) ≠ v1.ownBlock := fun e => by have h9 := (ho1.lt e.symm).2; omega
        generalize U1.alloc (.cells #[.slice A 2 2, .int .i64 30, .int .i64 1000, .int .i64 800, .int .i64 100, .int .i64 1500, .int .i64 10, .slice A 2 2, .int .i64 30, .int .i64 1000, .int .i64 800, .int .i64 100, .int .i64 1500, .int .i64 10] 44) = U2 at *
        have hb2 := hb1.trans (hx.mono hb1.size)
        replace ho1 := ho1.ext hx
        clear hx
        refine Dr.Any.plan_e rfl (by rfl) (fun K hK => ?_)
        have hT := Blk.new U2 102 [.int .i64 40, .int .i64 5, .int .i64 500, .int .i64 6]
        have hx := ext_alloc U2 (.cells #[.int .i64 40, .int .i64 5, .int .i64 500, .int .i64 6] 102)
        go_wp2
        refine hK _ _ (.of (ext_alloc _ _)) ?_; clear hK K
        change Blk (U2.alloc (.cells #[.int .i64 40, .int .i64 5, .int .i64 500, .int .i64 6] 102)) _ _ _ at hT
        change Below U2.heap.size U2 (U2.alloc (.cells #[.int .i64 40, .int .i64 5, .int .i64 500, .int .i64 6] 102)) at hx
        generalize U2.alloc (.cells #[.int .i64 40, .int .i64 5, .int .i64 500, .int .i64 6] 102) = U3 at *
        have hb3 := hb2.trans (hx.mono hb2.size)
        replace hL := hL.ext hx
        replace ho1 := ho1.ext hx
        clear hx
        refine Dr.Any.plan_e rfl (by rfl) (fun K hK => ?_)
        refine app_row_op Th.enc 46 102 4 32 et46 (by decide) (by decide) th_len th_one _ _ rfl Y.heap.size _ trT0 rfl (ho1.lower HoB.out) (some ⟨U2.heap.size, 0, none⟩) 1 1 [⟨40, 5, 500, 6⟩] rfl rfl (cells_of th_len hT rfl) (by show 4 + 1 ≤ _; omega) hb3.size (fun v2 U4 ho2 hx hg2 => ?_)
        refine hK _ _ (Dr.Any.Bel.grown hg2 (fun k hk => ((ho1.lower HoB.out).lt hk).1)) ?_; clear hK K
        go_frame
        rw [show trT0 ++ [(⟨40, 5, 500, 6⟩ : Th)] = ts5 from rfl] at ho2
        replace hL : Blk U4 U1.heap.size 44 _ := (hg2.block _ hL.lt hne).trans hL
        have hb4 := hb3.trans hx
        clear hx hT ho1
        obtain ⟨A5, c5, e5, -, -, h5⟩ := ho2.cells th_len
        subst e5
        clear ho2 hg2
        have CF := Lib.hid (CFi.out U4 (U1.heap.size) A5 c5 hb4 hL h5)
        clear CFi hL h5
        refine Dr.Any.plan_e rfl (by rfl) (fun K hK => ?_)
        go_wp2_with fail
        refine CF.out.mono ?_; rintro e Uz ⟨hx, v, he, hv⟩
        rw [show fillRes (List.map LoV.l [(⟨trL0, A, 2⟩ : LoV), ⟨trL0, A, 2⟩]) ts5 = _ from en_fill] at he hv
        subst he
        refine hK _ _ (.of hx) ?_; clear hK K
        have hbz := HbY.out.trans ((hb4.trans (hx.mono hb4.size)).mono hsY)
        have HV := Lib.hid hv
        clear CF hx hv
        with_reducible refine Dr.Any.plan_q (l := [_, _, _, _, _]) (by with_unfolding_all exact rfl) (fun K hK => ?_)
        iterate 5 (go_big_quiet_step (fail))
        refine wpQuiet_nil (hK _ ?_); clear hK K
        refine Dr.Any.plan_end rfl ?_
        go_wp2
        go_meet
        case rel => exact ⟨rfl, HV.out, hbz⟩
      · refine Dr.Any.plan_e rfl (by rfl) (fun K hK => ?_)
        have hT := Blk.new U1 102 [.int .i64 40, .int .i64 5, .int .i64 500, .int .i64 6]
        have hx := ext_alloc U1 (.cells #[.int .i64 40, .int .i64 5, .int .i64 500, .int .i64 6] 102)
        go_wp2
        refine hK _ _ (.of (ext_alloc _ _)) ?_; clear hK K
        change Blk (U1.alloc (.cells #[.int .i64 40, .int .i64 5, .int .i64 500, .int .i64 6] 102)) _ _ _ at hT
        change Below U1.heap.size U1 (U1.alloc (.cells #[.int .i64 40, .int .i64 5, .int .i64 500, .int .i64 6] 102)) at hx
        generalize U1.alloc (.cells #[.int .i64 40, .int .i64 5, .int .i64 500, .int .i64 6] 102) = U2 at *
        have hb2 := hb1.trans (hx.mono hb1.size)
        replace ho1 := ho1.ext hx
        clear hx
        refine Dr.Any.plan_e2 ?_ ?_
        · refine Dr.Any.plan_e rfl (by rfl) (fun K hK => ?_)
          have hL := Blk.new U2 44 [.slice A 2 2, .int .i64 30, .int .i64 1000, .int .i64 800, .int .i64 100, .int .i64 1500, .int .i64 10, .slice A 2 2, .int .i64 30, .int .i64 1000, .int .i64 800, .int .i64 100, .int .i64 1500, .int .i64 10]
          have hx := ext_alloc U2 (.cells #[.slice A 2 2, .int .i64 30, .int .i64 1000, .int .i64 800, .int .i64 100, .int .i64 1500, .int .i64 10, .slice A 2 2, .int .i64 30, .int .i64 1000, .int .i64 800, .int .i64 100, .int .i64 1500, .int .i64 10] 44)
          go_wp2
          refine hK _ _ (.of (ext_alloc _ _)) ?_; clear hK K
          change Blk (U2.alloc (.cells #[.slice A 2 2, .int .i64 30, .int .i64 1000, .int .i64 800, .int .i64 100, .int .i64 1500, .int .i64 10, .slice A 2 2, .int .i64 30, .int .i64 1000, .int .i64 800, .int .i64 100, .int .i64 1500, .int .i64 10] 44)) _ _ _ at hL
          change Below U2.heap.size U2 (U2.alloc (.cells #[.slice A 2 2, .int .i64 30, .int .i64 1000, .int .i64 800, .int .i64 100, .int .i64 1500, .int .i64 10, .slice A 2 2, .int .i64 30, .int .i64 1000, .int .i64 800, .int .i64 100, .int .i64 1500, .int .i64 10] 44)) at hx
          have hne : (some U2.heap.size : Option Nat) ≠ v1.ownBlock := fun e => by have h9 := (ho1.lt e.symm).2; omega
          generalize U2.alloc (.cells #[.slice A 2 2, .int .i64 30, .int .i64 1000, .int .i64 800, .int .i64 100, .int .i64 1500, .int .i64 10, .slice A 2 2, .int .i64 30, .int .i64 1000, .int .i64 800, .int .i64 100, .int .i64 1500, .int .i64 10] 44) = U3 at *
          have hb3 := hb2.trans (hx.mono hb2.size)
          replace hT := hT.ext hx
          replace ho1 := ho1.ext hx
          clear hx
          refine Dr.Any.plan_e rfl (by rfl) (fun K hK => ?_)
          refine app_row_op Th.enc 46 102 4 32 et46 (by decide) (by decide) th_len th_one _ _ rfl Y.heap.size _ trT0 rfl (ho1.lower HoB.out) (some ⟨U1.heap.size, 0, none⟩) 1 1 [⟨40, 5, 500, 6⟩] rfl rfl (cells_of th_len hT rfl) (by show 4 + 1 ≤ _; omega) hb3.size (fun v2 U4 ho2 hx hg2 => ?_)
          refine hK _ _ (Dr.Any.Bel.grown hg2 (fun k hk => ((ho1.lower HoB.out).lt hk).1)) ?_; clear hK K
          go_frame
          rw [show trT0 ++ [(⟨40, 5, 500, 6⟩ : Th)] = ts5 from rfl] at ho2
          replace hL : Blk U4 U2.heap.size 44 _ := (hg2.block _ hL.lt hne).trans hL
          have hb4 := hb3.trans hx
          clear hx hT ho1
          obtain ⟨A5, c5, e5, -, -, h5⟩ := ho2.cells th_len
          subst e5
          clear ho2 hg2
          have CF := Lib.hid (CFi.out U4 (U2.heap.size) A5 c5 hb4 hL h5)
          clear CFi hL h5
          refine Dr.Any.plan_e rfl (by rfl) (fun K hK => ?_)
          go_wp2_with fail
          refine CF.out.mono ?_; rintro e Uz ⟨hx, v, he, hv⟩
          rw [show fillRes (List.map LoV.l [(⟨trL0, A, 2⟩ : LoV), ⟨trL0, A, 2⟩]) ts5 = _ from en_fill] at he hv
          subst he
          refine hK _ _ (.of hx) ?_; clear hK K
          have hbz := HbY.out.trans ((hb4.trans (hx.mono hb4.size)).mono hsY)
          have HV := Lib.hid hv
          clear CF hx hv
          with_reducible refine Dr.Any.plan_q (l := [_, _, _, _, _]) (by with_unfolding_all exact rfl) (fun K hK => ?_)
          iterate 5 (go_big_quiet_step (fail))
          refine wpQuiet_nil (hK _ ?_); clear hK K
          refine Dr.Any.plan_end rfl ?_
          go_wp2
          go_meet
          case rel => exact ⟨rfl, HV.out, hbz⟩
        · refine Dr.Any.plan_e rfl (by rfl) (fun K hK => ?_)
          refine app_row_op Th.enc 46 102 4 32 et46 (by decide) (by decide) th_len th_one _ _ rfl Y.heap.size _ trT0 rfl (ho1.lower HoB.out) (some ⟨U1.heap.size, 0, none⟩) 1 1 [⟨40, 5, 500, 6⟩] rfl rfl (cells_of th_len hT rfl) (by show 4 + 1 ≤ _; omega) hb2.size (fun v2 U3 ho2 hx hg2 => ?_)
          refine hK _ _ (Dr.Any.Bel.grown hg2 (fun k hk => ((ho1.lower HoB.out).lt hk).1)) ?_; clear hK K
          go_frame
          rw [show trT0 ++ [(⟨40, 5, 500, 6⟩ : Th)] = ts5 from rfl] at ho2
          have hb3 := hb2.trans hx
          clear hx hT ho1
          obtain ⟨A5, c5, e5, -, -, h5⟩ := ho2.cells th_len
          subst e5
          clear ho2 hg2
          refine Dr.Any.plan_e rfl (by rfl) (fun K hK => ?_)
          have hL := Blk.new U3 44 [.slice A 2 2, .int .i64 30, .int .i64 1000, .int .i64 800, .int .i64 100, .int .i64 1500, .int .i64 10, .slice A 2 2, .int .i64 30, .int .i64 1000, .int .i64 800, .int .i64 100, .int .i64 1500, .int .i64 10]
          have hx := ext_alloc U3 (.cells #[.slice A 2 2, .int .i64 30, .int .i64 1000, .int .i64 800, .int .i64 100, .int .i64 1500, .int .i64 10, .slice A 2 2, .int .i64 30, .int .i64 1000, .int .i64 800, .int .i64 100, .int .i64 1500, .int .i64 10] 44)
          go_wp2
          refine hK _ _ (.of (ext_alloc _ _)) ?_; clear hK K
          change Blk (U3.alloc (.cells #[.slice A 2 2, .int .i64 30, .int .i64 1000, .int .i64 800, .int .i64 100, .int .i64 1500, .int .i64 10, .slice A 2 2, .int .i64 30, .int .i64 1000, .int .i64 800, .int .i64 100, .int .i64 1500, .int .i64 10] 44)) _ _ _ at hL
          change Below U3.heap.size U3 (U3.alloc (.cells #[.slice A 2 2, .int .i64 30, .int .i64 1000, .int .i64 800, .int .i64 100, .int .i64 1500, .int .i64 10, .slice A 2 2, .int .i64 30, .int .i64 1000, .int .i64 800, .int .i64 100, .int .i64 1500, .int .i64 10] 44)) at hx
          generalize U3.alloc (.cells #[.slice A 2 2, .int .i64 30, .int .i64 1000, .int .i64 800, .int .i64 100, .int .i64 1500, .int .i64 10, .slice A 2 2, .int .i64 30, .int .i64 1000, .int .i64 800, .int .i64 100, .int .i64 1500, .int .i64 10] 44) = U4 at *
          have hb4 := hb3.trans (hx.mono hb3.size)
          replace h5 := h5.ext hx
          clear hx
          have CF := Lib.hid (CFi.out U4 (U3.heap.size) A5 c5 hb4 hL h5)
          clear CFi hL h5
          refine Dr.Any.plan_e rfl (by rfl) (fun K hK => ?_)
          go_wp2_with fail
          refine CF.out.mono ?_; rintro e Uz ⟨hx, v, he, hv⟩
          rw [show fillRes (List.map LoV.l [(⟨trL0, A, 2⟩ : LoV), ⟨trL0, A, 2⟩]) ts5 = _ from en_fill] at he hv
          subst he
          refine hK _ _ (.of hx) ?_; clear hK K
          have hbz := HbY.out.trans ((hb4.trans (hx.mono hb4.size)).mono hsY)
          have HV := Lib.hid hv
          clear CF hx hv
          with_reducible refine Dr.Any.plan_q (l := [_, _, _, _, _]) (by with_unfolding_all exact rfl) (fun K hK => ?_)
          iterate 5 (go_big_quiet_step (fail))
          refine wpQuiet_nil (hK _ ?_); clear hK K
          refine Dr.Any.plan_end rfl ?_
          go_wp2
          go_meet
          case rel => exact ⟨rfl, HV.out, hbz⟩
    · refine Dr.Any.plan_e rfl (by rfl) (fun K hK => ?_)
      have hT := Blk.new Y 102 [.int .i64 40, .int .i64 5, .int .i64 500, .int .i64 6]
      have hx := ext_alloc Y (.cells #[.int .i64 40, .int .i64 5, .int .i64 500, .int .i64 6] 102)
      go_wp2
      refine hK _ _ (.of (ext_alloc _ _)) ?_; clear hK K
      change Blk (Y.alloc (.cells #[.int .i64 40, .int .i64 5, .int .i64 500, .int .i64 6] 102)) _ _ _ at hT
      change Below Y.heap.size Y (Y.alloc (.cells #[.int .i64 40, .int .i64 5, .int .i64 500, .int .i64 6] 102)) at hx
      generalize Y.alloc (.cells #[.int .i64 40, .int .i64 5, .int .i64 500, .int .i64 6] 102) = U1 at *
      have hb1 := hb0.trans (hx.mono hb0.size)
      clear hx
      refine Dr.Any.plan_e2 ?_ ?_
      · refine Dr.Any.plan_e rfl (by rfl) (fun K hK => ?_)
        have hL := Blk.new U1 44 [.slice A 2 2, .int .i64 30, .int .i64 1000, .int .i64 800, .int .i64 100, .int .i64 1500, .int .i64 10, .slice A 2 2, .int .i64 30, .int .i64 1000, .int .i64 800, .int .i64 100, .int .i64 1500, .int .i64 10]
        have hx := ext_alloc U1 (.cells #[.slice A 2 2, .int .i64 30, .int .i64 1000, .int .i64 800, .int .i64 100, .int .i64 1500, .int .i64 10, .slice A 2 2, .int .i64 30, .int .i64 1000, .int .i64 800, .int .i64 100, .int .i64 1500, .int .i64 10] 44)
        go_wp2
        refine hK _ _ (.of (ext_alloc _ _)) ?_; clear hK K
        change Blk (U1.alloc (.cells #[.slice A 2 2, .int .i64 30, .int .i64 1000, .int .i64 800, .int .i64 100, .int .i64 1500, .int .i64 10, .slice A 2 2, .int .i64 30, .int .i64 1000, .int .i64 800, .int .i64 100, .int .i64 1500, .int .i64 10] 44)) _ _ _ at hL
        change Below U1.heap.size U1 (U1.alloc (.cells #[.slice A 2 2, .int .i64 30, .int .i64 1000, .int .i64 800, .int .i64 100, .int .i64 1500, .int .i64 10, .slice A 2 2, .int .i64 30, .int .i64 1000, .int .i64 800, .int .i64 100, .int .i64 1500, .int .i64 10] 44)) at hx
        generalize U1.alloc (.cells #[.slice A 2 2, .int .i64 30, .int .i64 1000, .int .i64 800, .int .i64 100, .int .i64 1500, .int .i64 10, .slice A 2 2, .int .i64 30, .int .i64 1000, .int .i64 800, .int .i64 100, .int .i64 1500, .int .i64 10] 44) = U2 at *
        have hb2 := hb1.trans (hx.mono hb1.size)
        replace hT := hT.ext hx
        clear hx
        refine Dr.Any.plan_e rfl (by rfl) (fun K hK => ?_)
        refine app_row_op Th.enc 46 102 4 32 et46 (by decide) (by decide) th_len th_one _ _ rfl U2.heap.size _ [] rfl OwnL.nil T 4 4 trT0 rfl rfl (ht.ext hb2) (by simp) (Nat.le_refl _) (fun v1 U3 ho1 hx hg1 => ?_)
        refine hK _ _ (.of hx) ?_; clear hK K
        go_frame
        rw [List.nil_append] at ho1
        have hne : (some U1.heap.size : Option Nat) ≠ v1.ownBlock := fun e => by have h9 := (ho1.lt e.symm).1; have h8 := hL.lt; omega
        have hb3 := hb2.trans (hx.mono hb2.size)
        replace hL := hL.ext hx
        replace hT := hT.ext hx
        have HoB := Lib.hid (show Y.heap.size ≤ U2.heap.size from hb2.size)
        clear hx hg1
        refine Dr.Any.plan_e rfl (by rfl) (fun K hK => ?_)
        refine app_row_op Th.enc 46 102 4 32 et46 (by decide) (by decide) th_len th_one _ _ rfl Y.heap.size _ trT0 rfl (ho1.lower HoB.out) (some ⟨Y.heap.size, 0, none⟩) 1 1 [⟨40, 5, 500, 6⟩] rfl rfl (cells_of th_len hT rfl) (by show 4 + 1 ≤ _; omega) hb3.size (fun v2 U4 ho2 hx hg2 => ?_)
        refine hK _ _ (Dr.Any.Bel.grown hg2 (fun k hk => ((ho1.lower HoB.out).lt hk).1)) ?_; clear hK K
        go_frame
        rw [show trT0 ++ [(⟨40, 5, 500, 6⟩ : Th)] = ts5 from rfl] at ho2
        replace hL : Blk U4 U1.heap.size 44 _ := (hg2.block _ hL.lt hne).trans hL
        have hb4 := hb3.trans hx
        clear hx hT ho1
        obtain ⟨A5, c5, e5, -, -, h5⟩ := ho2.cells th_len
        subst e5
        clear ho2 hg2
        have CF := Lib.hid (CFi.out U4 (U1.heap.size) A5 c5 hb4 hL h5)
        clear CFi hL h5
        refine Dr.Any.plan_e rfl (by rfl) (fun K hK => ?_)
        go_wp2_with fail
        refine CF.out.mono ?_; rintro e Uz ⟨hx, v, he, hv⟩
        rw [show fillRes (List.map LoV.l [(⟨trL0, A, 2⟩ : LoV), ⟨trL0, A, 2⟩]) ts5 = _ from en_fill] at he hv
        subst he
        refine hK _ _ (.of hx) ?_; clear hK K
        have hbz := HbY.out.trans ((hb4.trans (hx.mono hb4.size)).mono hsY)
        have HV := Lib.hid hv
        clear CF hx hv
        with_reducible refine Dr.Any.plan_q (l := [_, _, _, _, _]) (by with_unfolding_all exact rfl) (fun K hK => ?_)
        iterate 5 (go_big_quiet_step (fail))
        refine wpQuiet_nil (hK _ ?_); clear hK K
        refine Dr.Any.plan_end rfl ?_
        go_wp2
        go_meet
        case rel => exact ⟨rfl, HV.out, hbz⟩
      · refine Dr.Any.plan_e rfl (by rfl) (fun K hK => ?_)
        refine app_row_op Th.enc 46 102 4 32 et46 (by decide) (by decide) th_len th_one _ _ rfl U1.heap.size _ [] rfl OwnL.nil T 4 4 trT0 rfl rfl (ht.ext hb1) (by simp) (Nat.le_refl _) (fun v1 U2 ho1 hx hg1 => ?_)
        refine hK _ _ (.of hx) ?_; clear hK K
        go_frame
        rw [List.nil_append] at ho1
        have hb2 := hb1.trans (hx.mono hb1.size)
        replace hT := hT.ext hx
        have HoB := Lib.hid (show Y.heap.size ≤ U1.heap.size from hb1.size)
        clear hx hg1
        refine Dr.Any.plan_e2 ?_ ?_
        · refine Dr.Any.plan_e rfl (by rfl) (fun K hK => ?_)
          have hL := Blk.new U2 44 [.slice A 2 2, .int .i64 30, .int .i64 1000, .int .i64 800, .int .i64 100, .int .i64 1500, .int .i64 10, .slice A 2 2, .int .i64 30, .int .i64 1000, .int .i64 800, .int .i64 100, .int .i64 1500, .int .i64 10]
          have hx := ext_alloc U2 (.cells #[.slice A 2 2, .int .i64 30, .int .i64 1000, .int .i64 800, .int .i64 100, .int .i64 1500, .int .i64 10, .slice A 2 2, .int .i64 30, .int .i64 1000, .int .i64 800, .int .i64 100, .int .i64 1500, .int .i64 10] 44)
          go_wp2
          refine hK _ _ (.of (ext_alloc _ _)) ?_; clear hK K
          change Blk (U2.alloc (.cells #[.slice A 2 2, .int .i64 30, .int .i64 1000, .int .i64 800, .int .i64 100, .int .i64 1500, .int .i64 10, .slice A 2 2, .int .i64 30, .int .i64 1000, .int .i64 800, .int .i64 100, .int .i64 1500, .int .i64 10] 44)) _ _ _ at hL
          change Below U2.heap.size U2 (U2.alloc (.cells #[.slice A 2 2, .int .i64 30, .int .i64 1000, .int .i64 800, .int .i64 100, .int .i64 1500, .int .i64 10, .slice A 2 2, .int .i64 30, .int .i64 1000, .int .i64 800, .int .i64 100, .int .i64 1500, .int .i64 10] 44)) at hx
          have hne : (some U2.heap.size : Option Nat) ≠ v1.ownBlock := fun e => by have h9 := (ho1.lt e.symm).2; omega
          generalize U2.alloc (.cells #[.slice A 2 2, .int .i64 30, .int .i64 1000, .int .i64 800, .int .i64 100, .int .i64 1500, .int .i64 10, .slice A 2 2, .int .i64 30, .int .i64 1000, .int .i64 800, .int .i64 100, .int .i64 1500, .int .i64 10] 44) = U3 at *
          have hb3 := hb2.trans (hx.mono hb2.size)
          replace hT := hT.ext hx
          replace ho1 := ho1.ext hx
          clear hx
          refine Dr.Any.plan_e rfl (by rfl) (fun K hK => ?_)
          refine app_row_op Th.enc 46 102 4 32 et46 (by decide) (by decide) th_len th_one _ _ rfl Y.heap.size _ trT0 rfl (ho1.lower HoB.out) (some ⟨Y.heap.size, 0, none⟩) 1 1 [⟨40, 5, 500, 6⟩] rfl rfl (cells_of th_len hT rfl) (by show 4 + 1 ≤ _; omega) hb3.size (fun v2 U4 ho2 hx hg2 => ?_)
          refine hK _ _ (Dr.Any.Bel.grown hg2 (fun k hk => ((ho1.lower HoB.out).lt hk).1)) ?_; clear hK K
          go_frame
          rw [show trT0 ++ [(⟨40, 5, 500, 6⟩ : Th)] = ts5 from rfl] at ho2
          replace hL : Blk U4 U2.heap.size 44 _ := (hg2.block _ hL.lt hne).trans hL
          have hb4 := hb3.trans hx
          clear hx hT ho1
          obtain ⟨A5, c5, e5, -, -, h5⟩ := ho2.cells th_len
          subst e5
          clear ho2 hg2
          have CF := Lib.hid (CFi.out U4 (U2.heap.size) A5 c5 hb4 hL h5)
          clear CFi hL h5
          refine Dr.Any.plan_e rfl (by rfl) (fun K hK => ?_)
          go_wp2_with fail
          refine CF.out.mono ?_; rintro e Uz ⟨hx, v, he, hv⟩
          rw [show fillRes (List.map LoV.l [(⟨trL0, A, 2⟩ : LoV), ⟨trL0, A, 2⟩]) ts5 = _ from en_fill] at he hv
          subst he
          refine hK _ _ (.of hx) ?_; clear hK K
          have hbz := HbY.out.trans ((hb4.trans (hx.mono hb4.size)).mono hsY)
          have HV := Lib.hid hv
          clear CF hx hv
          with_reducible refine Dr.Any.plan_q (l := [_, _, _, _, _]) (by with_unfolding_all exact rfl) (fun K hK => ?_)
          iterate 5 (go_big_quiet_step (fail))
          refine wpQuiet_nil (hK _ ?_); clear hK K
          refine Dr.Any.plan_end rfl ?_
          go_wp2
          go_meet
          case rel => exact ⟨rfl, HV.out, hbz⟩
        · refine Dr.Any.plan_e rfl (by rfl) (fun K hK => ?_)
          refine app_row_op Th.enc 46 102 4 32 et46 (by decide) (by decide) th_len th_one _ _ rfl Y.heap.size _ trT0 rfl (ho1.lower HoB.out) (some ⟨Y.heap.size, 0, none⟩) 1 1 [⟨40, 5, 500, 6⟩] rfl rfl (cells_of th_len hT rfl) (by show 4 + 1 ≤ _; omega) hb2.size (fun v2 U3 ho2 hx hg2 => ?_)
          refine hK _ _ (Dr.Any.Bel.grown hg2 (fun k hk => ((ho1.lower HoB.out).lt hk).1)) ?_; clear hK K
          go_frame
          rw [show trT0 ++ [(⟨40, 5, 500, 6⟩ : Th)] = ts5 from rfl] at ho2
          have hb3 := hb2.trans hx
          clear hx hT ho1
          obtain ⟨A5, c5, e5, -, -, h5⟩ := ho2.cells th_len
          subst e5
          clear ho2 hg2
          refine Dr.Any.plan_e rfl (by rfl) (fun K hK => ?_)
          have hL := Blk.new U3 44 [.slice A 2 2, .int .i64 30, .int .i64 1000, .int .i64 800, .int .i64 100, .int .i64 1500, .int .i64 10, .slice A 2 2, .int .i64 30, .int .i64 1000, .int .i64 800, .int .i64 100, .int .i64 1500, .int .i64 10]
          have hx := ext_alloc U3 (.cells #[.slice A 2 2, .int .i64 30, .int .i64 1000, .int .i64 800, .int .i64 100, .int .i64 1500, .int .i64 10, .slice A 2 2, .int .i64 30, .int .i64 1000, .int .i64 800, .int .i64 100, .int .i64 1500, .int .i64 10] 44)
          go_wp2
          refine hK _ _ (.of (ext_alloc _ _)) ?_; clear hK K
          change Blk (U3.alloc (.cells #[.slice A 2 2, .int .i64 30, .int .i64 1000, .int .i64 800, .int .i64 100, .int .i64 1500, .int .i64 10, .slice A 2 2, .int .i64 30, .int .i64 1000, .int .i64 800, .int .i64 100, .int .i64 1500, .int .i64 10] 44)) _ _ _ at hL
          change Below U3.heap.size U3 (U3.alloc (.cells #[.slice A 2 2, .int .i64 30, .int .i64 1000, .int .i64 800, .int .i64 100, .int .i64 1500, .int .i64 10, .slice A 2 2, .int .i64 30, .int .i64 1000, .int .i64 800, .int .i64 100, .int .i64 1500, .int .i64 10] 44)) at hx
          generalize U3.alloc (.cells #[.slice A 2 2, .int .i64 30, .int .i64 1000, .int .i64 800, .int .i64 100, .int .i64 1500, .int .i64 10, .slice A 2 2, .int .i64 30, .int .i64 1000, .int .i64 800, .int .i64 100, .int .i64 1500, .int .i64 10] 44) = U4 at *
          have hb4 := hb3.trans (hx.mono hb3.size)
          replace h5 := h5.ext hx
          clear hx
          have CF := Lib.hid (CFi.out U4 (U3.heap.size) A5 c5 hb4 hL h5)
          clear CFi hL h5
          refine Dr.Any.plan_e rfl (by rfl) (fun K hK => ?_)
          go_wp2_with fail
          refine CF.out.mono ?_; rintro e Uz ⟨hx, v, he, hv⟩
          rw [show fillRes (List.map LoV.l [(⟨trL0, A, 2⟩ : LoV), ⟨trL0, A, 2⟩]) ts5 = _ from en_fill] at he hv
          subst he
          refine hK _ _ (.of hx) ?_; clear hK K
          have hbz := HbY.out.trans ((hb4.trans (hx.mono hb4.size)).mono hsY)
          have HV := Lib.hid hv
          clear CF hx hv
          with_reducible refine Dr.Any.plan_q (l := [_, _, _, _, _]) (by with_unfolding_all exact rfl) (fun K hK => ?_)
          iterate 5 (go_big_quiet_step (fail))
          refine wpQuiet_nil (hK _ ?_); clear hK K
          refine Dr.Any.plan_end rfl ?_
          go_wp2
          go_meet
          case rel => exact ⟨rfl, HV.out, hbz⟩
  case rest =>
  obtain ⟨rfl, ⟨AF, cF, pF, rfl, hpF, hMF⟩, hx⟩ := hcut
  generalize wc = W25 at *
  replace hB := hB.ext hx
  replace hl := hl.ext hx
  replace hU := hU.ext hx
  replace hM7 := hM7.ext hx
  replace hb := ext_trans hb hx
  have hlF : pF.length = 2 := by rw [← pks_len, hpF]; rfl
  rw [hlF]
  have HlF := Lib.hid hlF
  obtain ⟨y1, y2, rfl⟩ : ∃ a b, pF = [a, b] := by
    match pF, hlF with
    | [a, b], _ => exact ⟨a, b, rfl⟩
  simp only [pks, List.map_cons, List.map_nil, List.cons.injEq, and_true] at hpF
  obtain ⟨hy1, hy2⟩ := hpF
  have Hy1 := Lib.hid hy1
  have Hy2 := Lib.hid hy2
  have hk1 : y1.rs.length = 2 := by rw [← rows_len, hy1]; rfl
  have hk2 : y2.rs.length = 2 := by rw [← rows_len, hy2]; rfl
  have Hk1 := Lib.hid hk1
  have Hk2 := Lib.hid hk2
  clear hx hlF hy1 hy2 hk1 hk2 ht
  go_upto_region 15 with fail
  refine Dr.seq_start2 (by simp only [List.append]; rfl) ?_
  have n1 := (Blk.new W25 3 [.int .i64 2, .int .i64 1, .int .i64 0]).alloc (.cells #[.slice (some ⟨W25.heap.size, 0, none⟩) 3 3, .slice none 0 0] 35)
  have n3 := Blk.new (W25.alloc (.cells #[.int .i64 2, .int .i64 1, .int .i64 0] 3)) 35 [.slice (some ⟨W25.heap.size, 0, none⟩) 3 3, .slice none 0 0]
  have nb : Below W25.heap.size W25 ((W25.alloc (.cells #[.int .i64 2, .int .i64 1, .int .i64 0] 3)).alloc (.cells #[.slice (some ⟨W25.heap.size, 0, none⟩) 3 3, .slice none 0 0] 35)) := ((Below.refl _ _).alloc (Nat.le_refl _) _).alloc (by simp) _
  simp only [World.size_alloc] at n3
  change Blk ((W25.alloc (.cells #[.int .i64 2, .int .i64 1, .int .i64 0] 3)).alloc (.cells #[.slice (some ⟨W25.heap.size, 0, none⟩) 3 3, .slice none 0 0] 35)) _ _ _ at n1 n3
  go_wp2_with fail
  generalize ((W25.alloc (.cells #[.int .i64 2, .int .i64 1, .int .i64 0] 3)).alloc (.cells #[.slice (some ⟨W25.heap.size, 0, none⟩) 3 3, .slice none 0 0] 35)) = W26 at *
  have hMa : RwM W26 (some ⟨W25.heap.size + 1, 0, none⟩) (litN W25.heap.size [2, 1, 0]) := litN_mem n1 n3
  clear n1 n3
  replace hl := hl.ext nb
  replace hU := hU.ext nb
  replace hM7 := hM7.ext nb
  replace hB := hB.ext nb
  replace hMF := hMF.ext nb
  replace hb := ext_trans hb nb
  clear nb
  have hD : ∀ r ∈ ([[2, 1, 0], []] : List (List Int)), r.length ≤ 100 := by decide
  have CS := Lib.hid (same_lit (c := c7) (d := 2) hM7 hMa Hrs7.out rfl 2 Hn7.out rfl (by omega) hD)
  refine (CS.out).mono ?_; rintro e W27 ⟨rfl, hx⟩
  clear CS hMa hM7 hD
  replace hl := hl.ext hx
  replace hU := hU.ext hx
  replace hB := hB.ext hx
  replace hMF := hMF.ext hx
  replace hb := ext_trans hb hx
  clear hx
  have q0 : W27.cell? ⟨W1.heap.size, 0, none⟩ = _ := hB.cell rfl
  have q1 : W27.cell? ⟨W1.heap.size, 1, none⟩ = _ := hB.cell rfl
  have q2 : W27.cell? ⟨W1.heap.size, 2, none⟩ = _ := hB.cell rfl
  have q3 : W27.cell? ⟨W1.heap.size, 3, none⟩ = _ := hB.cell rfl
  have q4 : W27.cell? ⟨W1.heap.size, 4, none⟩ = _ := hB.cell rfl
  have q5 : W27.cell? ⟨W1.heap.size, 5, none⟩ = _ := hB.cell rfl
  have q6 : W27.cell? ⟨W1.heap.size, 6, none⟩ = _ := hB.cell rfl
  have n1 := Blk.new W27 3 [.int .i64 0, .int .i64 1, .int .i64 2]
  have nb := ext_alloc W27 (.cells #[.int .i64 0, .int .i64 1, .int .i64 2] 3)
  go_wp2_with fail
  change Blk (W27.alloc (.cells #[.int .i64 0, .int .i64 1, .int .i64 2] 3)) _ _ _ at n1
  generalize W27.alloc (.cells #[.int .i64 0, .int .i64 1, .int .i64 2] 3) = W28 at *
  clear q0 q1 q2 q3 q4 q5 q6
  replace hl := hl.ext nb
  replace hU := hU.ext nb
  replace hB := hB.ext nb
  replace hMF := hMF.ext nb
  replace hb := ext_trans hb nb
  clear nb
  have CI := Lib.hid (show Calls Try.prog 43 #[.agg #[.slice A 2 2, .int .i64 30, .int .i64 1000, .int .i64 800, .int .i64 100, .int .i64 1500, .int .i64 10], .slice (some ⟨UB, 0, none⟩) 3 3, .slice (some ⟨W27.heap.size, 0, none⟩) 3 3] W28 _ from ProveClimb_any ⟨⟨trL0, A, 2⟩, some ⟨UB, 0, none⟩, 3⟩ upT (some ⟨W27.heap.size, 0, none⟩) 3 3 [0, 1, 2] W28 (show 2 ≤ _ by omega) (show 3 ≤ _ by omega) hl (cells_of th_len hU rfl) rfl (by omega) (cells_of Go.Bs.encI_len n1 rfl))
  refine (CI.out).mono ?_; rintro e W29 ⟨he, hx⟩
  rw [show proveB trL0 upT [0, 1, 2] = true from en_prv] at he
  subst he
  clear CI n1 hU hl hB
  replace hMF := hMF.ext hx
  replace hb := ext_trans hb hx
  clear hx
  obtain ⟨b0, o0, e0, -, cF0⟩ := hMF.hdr.at1 (show 0 < 2 by omega) rfl
  subst e0
  have rF := hMF.row _ (List.getElem_mem (show 0 < 2 by omega))
  simp only [List.getElem_cons_zero, Nat.add_zero] at cF0
  simp only [List.getElem_cons_zero] at rF
  rw [Hk1.out] at cF0
  have n1 := ((Blk.new W29 3 [.int .i64 0, .int .i64 1]).alloc (.cells #[.int .i64 3] 3)).alloc (.cells #[.slice (some ⟨W29.heap.size, 0, none⟩) 2 2, .slice (some ⟨W29.heap.size + 1, 0, none⟩) 1 1] 35)
  have n2 := (Blk.new (W29.alloc (.cells #[.int .i64 0, .int .i64 1] 3)) 3 [.int .i64 3]).alloc (.cells #[.slice (some ⟨W29.heap.size, 0, none⟩) 2 2, .slice (some ⟨W29.heap.size + 1, 0, none⟩) 1 1] 35)
  have n3 := Blk.new ((W29.alloc (.cells #[.int .i64 0, .int .i64 1] 3)).alloc (.cells #[.int .i64 3] 3)) 35 [.slice (some ⟨W29.heap.size, 0, none⟩) 2 2, .slice (some ⟨W29.heap.size + 1, 0, none⟩) 1 1]
  have nb : Below W29.heap.size W29 (((W29.alloc (.cells #[.int .i64 0, .int .i64 1] 3)).alloc (.cells #[.int .i64 3] 3)).alloc (.cells #[.slice (some ⟨W29.heap.size, 0, none⟩) 2 2, .slice (some ⟨W29.heap.size + 1, 0, none⟩) 1 1] 35)) := (((Below.refl _ _).alloc (Nat.le_refl _) _).alloc (by simp) _).alloc (by simp; omega) _
  simp only [World.size_alloc] at n2 n3
  change Blk (((W29.alloc (.cells #[.int .i64 0, .int .i64 1] 3)).alloc (.cells #[.int .i64 3] 3)).alloc (.cells #[.slice (some ⟨W29.heap.size, 0, none⟩) 2 2, .slice (some ⟨W29.heap.size + 1, 0, none⟩) 1 1] 35)) _ _ _ at n1 n2 n3
  go_wp2_with fail
  generalize (((W29.alloc (.cells #[.int .i64 0, .int .i64 1] 3)).alloc (.cells #[.int .i64 3] 3)).alloc (.cells #[.slice (some ⟨W29.heap.size, 0, none⟩) 2 2, .slice (some ⟨W29.heap.size + 1, 0, none⟩) 1 1] 35)) = W30 at *
  have hMa : RwM W30 (some ⟨W29.heap.size + 1 + 1, 0, none⟩) (litA W29.heap.size [0, 1] [3]) := litA_mem n1 n2 n3
  clear n1 n2 n3
  replace hMF := hMF.ext nb
  replace rF := rF.ext nb
  replace hb := ext_trans hb nb
  clear nb
  have hD : ∀ r ∈ ([[0, 1], [3]] : List (List Int)), r.length ≤ 100 := by decide
  have CS := Lib.hid (same_lit (c := y1.c) (d := 2) rF hMa Hy1.out rfl 2 Hk1.out rfl (by omega) hD)
  clear cF0
  refine (CS.out).mono ?_; rintro e W31 ⟨rfl, hx⟩
  clear CS hMa rF hD
  replace hMF := hMF.ext hx
  replace hb := ext_trans hb hx
  clear hx
  obtain ⟨b1, o1, e1, -, cF1⟩ := hMF.hdr.at1 (show 1 < 2 by omega) rfl
  cases e1
  have rF := hMF.row _ (List.getElem_mem (show 1 < 2 by omega))
  simp only [List.getElem_cons_zero, List.getElem_cons_succ] at cF1
  simp only [List.getElem_cons_zero, List.getElem_cons_succ] at rF
  rw [Hk2.out] at cF1
  have n1 := (Blk.new W31 3 [.int .i64 2, .int .i64 4]).alloc (.cells #[.slice (some ⟨W31.heap.size, 0, none⟩) 2 2, .slice none 0 0] 35)
  have n3 := Blk.new (W31.alloc (.cells #[.int .i64 2, .int .i64 4] 3)) 35 [.slice (some ⟨W31.heap.size, 0, none⟩) 2 2, .slice none 0 0]
  have nb : Below W31.heap.size W31 ((W31.alloc (.cells #[.int .i64 2, .int .i64 4] 3)).alloc (.cells #[.slice (some ⟨W31.heap.size, 0, none⟩) 2 2, .slice none 0 0] 35)) := ((Below.refl _ _).alloc (Nat.le_refl _) _).alloc (by simp) _
  simp only [World.size_alloc] at n3
  change Blk ((W31.alloc (.cells #[.int .i64 2, .int .i64 4] 3)).alloc (.cells #[.slice (some ⟨W31.heap.size, 0, none⟩) 2 2, .slice none 0 0] 35)) _ _ _ at n1 n3
  go_wp2_with fail
  generalize ((W31.alloc (.cells #[.int .i64 2, .int .i64 4] 3)).alloc (.cells #[.slice (some ⟨W31.heap.size, 0, none⟩) 2 2, .slice none 0 0] 35)) = W32 at *
  have hMa : RwM W32 (some ⟨W31.heap.size + 1, 0, none⟩) (litN W31.heap.size [2, 4]) := litN_mem n1 n3
  clear n1 n3
  replace hMF := hMF.ext nb
  replace rF := rF.ext nb
  replace hb := ext_trans hb nb
  clear nb
  have hD : ∀ r ∈ ([[2, 4], []] : List (List Int)), r.length ≤ 100 := by decide
  have CS := Lib.hid (same_lit (c := y2.c) (d := 2) rF hMa Hy2.out rfl 2 Hk2.out rfl (by omega) hD)
  clear cF1
  refine (CS.out).mono ?_; rintro e W33 ⟨rfl, hx⟩
  clear CS hMa rF hD
  replace hMF := hMF.ext hx
  replace hb := ext_trans hb hx
  clear hx
  clear hMF
  go_wp2_with fail
  refine (awake_any _).mono ?_; rintro e W34 ⟨rfl, hx⟩
  replace hb := ext_trans hb hx
  clear hx
  go_wp2
  go_ret
  exact ⟨rfl, hb⟩
end Go.Proofs.Ytbpmfaibcibleaa

/- The law WagonNames returns true: the document's examples, and the errors. No condition. -/
namespace Go.Proofs.Ytbpmfaibcibleaa
open Go.ChangeShapes Go.WideShapes Go.ChangeAt Go.RowKit Go.Joins Go.Bs Go.Wg

set_option maxRecDepth 100000 in
theorem wagonNames_lifted (os : Os) (started : os.Started) (H : Type) (enc : TypeId × Value → H) :
    ReturnsInHanded {} Try.checked os 16 .any (Rows.wagonNamesSpec.pre6 enc Try.prog Try.f16 Rows.wagonNamesRow.domain false) (Rows.wagonNamesSpec.post enc Try.prog Try.f16 false true false false) := by
  refine returnsInHanded_of_change (C := Try.checked) ownK started (by kernel_rfl) Try.func16
    (ChangeSpec.witness6 (enc := enc) (C := Try.checked) false ⟨#[], #[], []⟩ 8 (by kernel_rfl) (by kernel_rfl) (by kernel_rfl) (by kernel_rfl)) ?_
  intro W base args ds gs before hval0 hW hcnd _
  have hW' := hW
  obtain ⟨p, q, hA0, hV, rfl, hfz, hnd⟩ := hW
  have hA : DataW.TrodAll enc Try.prog W 0 (fun _ => true) true Try.f16.params.toList args.toList ds p := hA0
  rw [Try.params16] at hA
  obtain ⟨hargs, rfl, rfl⟩ := trodAll_nil hA
  obtain rfl : args = #[] := by cases args; simp_all
  obtain ⟨rfl, rfl⟩ := trodVars_none hV
  clear hA0 hval0
  refine (names_law W).mono fun e W' ⟨he, bel⟩ => ?_
  subst he
  exact ⟨_, rfl, _, _, _, [], _, [], hW', trodAll_mk1 (shut_bool Try.underlying4 _), trodAll_mk0, rfl, bel.frame _, fun h => by cases h⟩

theorem wagonNames : Rows.WagonNamesSaid :=
  OpenClaim.holds_of_wide 16 Try.f16 rfl rfl rfl rfl rfl rfl rfl ⟨rfl, rfl, rfl, rfl, rfl⟩ rfl rfl rfl rfl rfl (by kernel_rfl) Try.func16 (by kernel_rfl)
    (of_decide_eq_true (by kernel_rfl)) (by unfold Func.isWrapper; first | (rw [if_pos (by decide +kernel)]; kernel_rfl) | (rw [if_neg (by decide +kernel)]; exact ⟨rfl, rfl⟩))
    (fun os started H enc _ => wagonNames_lifted os started H enc)
#print axioms wagonNames
end Go.Proofs.Ytbpmfaibcibleaa

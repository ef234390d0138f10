/- Walk: is a ledger valid. -/
import Derived.Test.YtnjdlhhgnamigaaGreatLedC
namespace Go.Pu
open Go.Pl
def boolsL (m : Nat) (f : Nat → Bool) : List Value := (List.range m).map fun i => .bool (f i)
theorem boolsL_len (m : Nat) (f : Nat → Bool) : (boolsL m f).length = m := by simp [boolsL]
theorem boolsL_get {m i : Nat} (f : Nat → Bool) (h : i < m) : (boolsL m f)[i]? = some (.bool (f i)) := by simp [boolsL, h]
theorem boolsL_set (m : Nat) (f : Nat → Bool) (k : Nat) : (boolsL m f).set k (.bool true) = boolsL m (fun i => f i || i == k) := by
  apply List.ext_getElem?
  intro i
  rw [List.getElem?_set]
  by_cases hi : i < m
  · rw [boolsL_get _ hi, boolsL_get _ hi, boolsL_len]
    by_cases e : k = i
    · subst e; simp [hi]
    · rw [if_neg e]; simp [Ne.symm e]
  · rw [List.getElem?_eq_none (by rw [boolsL_len]; omega), List.getElem?_eq_none (by rw [boolsL_len]; omega)]
    split
    · rw [if_neg (by rw [boolsL_len]; omega)]
    · rfl
/-- has one of the first j differences this bag? -/
def seenB (l : List Dif) (j : Nat) (x : Int) : Bool := (l.take j).any fun d => d.bag == x
def difsB (l : Led) (j : Nat) : Bool := l.difB (l.diffs.getD j default) && !seenB l.diffs j (l.diffs.getD j default).bag
theorem seen_succ {l : List Dif} {j : Nat} (h : j < l.length) (x : Int) : seenB l (j + 1) x = (seenB l j x || l[j].bag == x) := by
  unfold seenB
  rw [List.take_succ_eq_append_getElem h, List.any_append]
  simp
theorem oneB_iff : ∀ (l : List Dif), oneB l = true ↔ ∀ j (h : j < l.length), seenB l j l[j].bag = false
  | [] => by simp [oneB]
  | d :: r => by
    unfold oneB
    rw [Bool.and_eq_true, oneB_iff r]
    constructor
    · rintro ⟨h1, h2⟩ j hj
      cases j with
      | zero => simp [seenB]
      | succ j =>
        have hj' : j < r.length := by simpa using hj
        have h3 := h2 j hj'
        unfold seenB at h3 ⊢
        rw [List.take_succ_cons, List.any_cons]
        simp only [List.getElem_cons_succ]
        rw [h3, Bool.or_false]
        have h4 : (r.any fun e => e.bag == d.bag) = false := by simpa using h1
        have := List.any_eq_false.1 h4 r[j] (List.getElem_mem hj')
        simp at this ⊢
        exact Ne.symm this
    · intro h
      refine ⟨?_, fun j hj => ?_⟩
      · rw [Bool.not_eq_true', List.any_eq_false]
        intro x hx
        obtain ⟨j, hj, rfl⟩ := List.getElem_of_mem hx
        have := h (j + 1) (by simpa using hj)
        unfold seenB at this
        rw [List.take_succ_cons, List.any_cons, Bool.or_eq_false_iff] at this
        have h1 := this.1
        simp at h1 ⊢
        exact Ne.symm h1
      · have := h (j + 1) (by simpa using hj)
        unfold seenB at this ⊢
        rw [List.take_succ_cons, List.any_cons, Bool.or_eq_false_iff] at this
        exact this.2
theorem difs_all (l : Led) : (List.range l.diffs.length).all (difsB l) = (l.diffs.all l.difB && oneB l.diffs) := by
  rw [Bool.eq_iff_iff, List.all_eq_true, Bool.and_eq_true, List.all_eq_true, oneB_iff]
  constructor
  · intro h
    have h2 : ∀ j (hj : j < l.diffs.length), l.difB l.diffs[j] = true ∧ seenB l.diffs j l.diffs[j].bag = false := fun j hj => by
      have := h j (by simpa using hj)
      unfold difsB at this
      simpa [hj] using this
    exact ⟨fun x hx => by obtain ⟨j, hj, rfl⟩ := List.getElem_of_mem hx; exact (h2 j hj).1, fun j hj => (h2 j hj).2⟩
  · rintro ⟨h1, h2⟩ j hj
    have hj' : j < l.diffs.length := by simpa using hj
    unfold difsB
    simp [hj', h1 _ (List.getElem_mem hj'), h2 j hj']
theorem Led.okB_eq (l : Led) : l.okB = (decide (1 ≤ (l.windows.length : Int) ∧ (l.windows.length : Int) ≤ 10) && (decide (l.bags.length ≤ 100) && (l.windows.all monB && ([l.office, l.bank, l.begun, l.inn, l.out].all monB &&
    ((List.range l.bags.length).all l.bagB && ((List.range l.diffs.length).all (difsB l) && decide (l.total = l.begun + l.inn - l.out))))))) := by
  unfold Led.okB
  rw [difs_all]
  have h1 : decide ((1 ≤ l.windows.length ∧ l.windows.length ≤ 10) ∧ l.bags.length ≤ 100) = (decide (1 ≤ (l.windows.length : Int) ∧ (l.windows.length : Int) ≤ 10) && decide (l.bags.length ≤ 100)) := by
    rw [← Bool.decide_and]; congr 1; rw [eq_iff_iff]; omega
  rw [h1]
  simp only [Bool.and_assoc]
end Go.Pu
namespace Go.Proofs.YtnjdlhhgnamigaaGreat
open Go.RowKit Go.Bs Go.Pu Go.Pl Go.Sort

theorem info4 : (Tryz.prog.info? 4).map (fun i => (i.zero, i.size, i.bytes)) = some (some (.bool false), 1, 1) := by kernel_rfl
theorem mk101 (n : Nat) (hn : n ≤ 1000000) (w : World) :
    (Instr.makeSlice 105 (.int .i64 (n : Int)) (.int .i64 (n : Int))).run Tryz.prog w = .ok (.slice (some ⟨w.heap.size, 0, none⟩) n n) (w.alloc (.cells (boolsL n fun _ => false).toArray 4)) := by
  obtain ⟨i0, hi, hz0, hz1, hz2⟩ := info_parts info4
  have hr := run_make (P := Tryz.prog) w 105 4 i0 _ Tryz.underlying105 hi hz0 .i64 .i64 (n : Int) (n : Int) (by omega) (by omega) (by rw [hz2]; omega) (by omega)
  rw [hr, hz1]
  simp only [Int.toNat_natCast]
  refine congrArg (fun c => Result.ok (Value.slice (some ⟨w.heap.size, 0, none⟩) n n) (w.alloc (.cells c 4))) ?_
  apply Array.ext
  · simp [size_madeCells, boolsL]
  · intro j h2 h3
    simp [madeCells, Value.cells, Nat.mod_one, boolsL]

set_option maxRecDepth 100000 in
set_option maxHeartbeats 4000000 in
theorem lvalid_any (l : Led) (A : Option Addr) (n c : Nat) (B : Option Addr) (m d : Nat) (D : Option Addr) (q e : Nat) (w : World) (hL : LedM w l A n B m D q) :
    Calls Tryz.prog 25 #[ledV A n c B m d l.office l.bank l.begun l.inn l.out D q e] w fun r w' => r = .returned (.bool l.okB) ∧ Below w.heap.size w w' := by
  have hL0 := hL
  obtain ⟨hn, hm, hq, n9, m9, q9, ha, hB, hD⟩ := hL
  rw [Led.okB_eq, hn, hm, hq]
  have hb0 := ext_alloc w (.cells (ledC A n c B m d l.office l.bank l.begun l.inn l.out D q e).toArray 34)
  have hX := Blk.new w 34 (ledC A n c B m d l.office l.bank l.begun l.inn l.out D q e)
  have hsz : (w.alloc (.cells (ledC A n c B m d l.office l.bank l.begun l.inn l.out D q e).toArray 34)).heap.size = w.heap.size + 1 := by simp
  have C1 := Lib.hid (fun W => within_any n 1 10 W)
  have C3 := Lib.hid (fun W hW => all_int 44 #[] monB A n c l.windows W (enters_of Tryz.func44 (by kernel_rfl) rfl) hn (by omega) (ha.ext hW) (mon_ok l.windows W))
  have C4 := Lib.hid (fun W => all_int 44 #[] monB (some ⟨W.heap.size, 0, none⟩) 5 5 [l.office, l.bank, l.begun, l.inn, l.out] (W.alloc (.cells ([l.office, l.bank, l.begun, l.inn, l.out].flatMap encI).toArray 3)) (enters_of Tryz.func44 (by kernel_rfl) rfl) rfl (by omega) (cells_new W 3 1 encI encI_len _) (mon_ok _ _))
  have CB := Lib.hid (fun i W hW hi => bag_any l A n c B m d D q e i W (hL0.ext hW) hi)
  have CT := Lib.hid (fun W (hW : Below w.heap.size w W) h1 h2 h3 h4 h5 => total_any l.windows l.bags A n c B m d l.office l.bank l.begun l.inn l.out D q e W hn hm h1 m9 (ha.ext hW) (hB.ext hW) h2 h3 h4 h5)
  unfold ledV ledC at *
  have Hwin := Lib.hid (fun (h : l.windows.all monB = true) => show ∀ x ∈ l.windows, 0 ≤ x ∧ x ≤ 1000000000000 from fun x hx => of_decide_eq_true (List.all_eq_true.1 h x hx))
  have Hfive := Lib.hid (fun (h : [l.office, l.bank, l.begun, l.inn, l.out].all monB = true) => show (0 ≤ l.office ∧ l.office ≤ 1000000000000) ∧ (0 ≤ l.bank ∧ l.bank ≤ 1000000000000) ∧ (0 ≤ l.begun ∧ l.begun ≤ 1000000000000) ∧ (0 ≤ l.inn ∧ l.inn ≤ 1000000000000) ∧ (0 ≤ l.out ∧ l.out ≤ 1000000000000) from by
    simp [monB] at h; omega)
  have Htot := Lib.hid (show l.total = l.office + l.bank + isum l.windows + isum (l.bags.map Bag.holds) from rfl)
  have Hhold := Lib.hid (fun (h : (List.range m).all l.bagB = true) => show ∀ x ∈ l.bags, 0 ≤ x.holds ∧ x.holds ≤ 1000000000000 from fun x hx => by
    obtain ⟨i, hi, rfl⟩ := List.getElem_of_mem hx
    have := List.all_eq_true.1 h i (by simp; omega)
    unfold Led.bagB at this
    simp only [Bool.and_eq_true] at this
    have h5 := this.2.2.2.2.1
    unfold monB at h5
    simpa [hi] using h5)
  generalize hb1e : decide (1 ≤ (n : Int) ∧ (n : Int) ≤ 10) = b1 at *
  have Hb1 := Lib.hid hb1e
  clear hb1e
  generalize hb2 : decide (m ≤ 100) = b2
  generalize l.windows.all monB = b3 at *
  generalize [l.office, l.bank, l.begun, l.inn, l.out].all monB = b4 at *
  generalize hb5 : (List.range m).all l.bagB = b5 at *
  generalize hb6 : (List.range q).all (difsB l) = b6
  generalize hb7 : decide (l.total = l.begun + l.inn - l.out) = b7
  have Hb2 := Lib.hid hb2
  have Hb5 := Lib.hid hb5
  have Hb6 := Lib.hid hb6
  have Hb7 := Lib.hid hb7
  have Hn := Lib.hid hn
  have Hm := Lib.hid hm
  have Hq := Lib.hid hq
  clear hb2 hb5 hb6 hb7 hn hm hq hL0
  generalize l.office = lo at *
  generalize l.bank = lk at *
  generalize l.begun = lg at *
  generalize l.inn = li at *
  generalize l.out = lt at *
  go_enter Tryz.func25, Tryz.ntmps25
  go_upto_region 1 with fail
  change Blk (w.alloc (.cells #[.slice A n c, .slice B m d, .int .i64 lo, .int .i64 lk, .int .i64 lg, .int .i64 li, .int .i64 lt, .slice D q e] 34)) _ _ _ at hX
  change Below w.heap.size w (w.alloc (.cells #[.slice A n c, .slice B m d, .int .i64 lo, .int .i64 lk, .int .i64 lg, .int .i64 li, .int .i64 lt, .slice D q e] 34)) at hb0
  change (w.alloc (.cells #[.slice A n c, .slice B m d, .int .i64 lo, .int .i64 lk, .int .i64 lg, .int .i64 li, .int .i64 lt, .slice D q e] 34)).heap.size = _ at hsz
  generalize w.alloc (.cells #[.slice A n c, .slice B m d, .int .i64 lo, .int .i64 lk, .int .i64 lg, .int .i64 li, .int .i64 lt, .slice D q e] 34) = W0 at *
  have x0 : W0.cell? ⟨w.heap.size, 0, none⟩ = _ := hX.cell (i := 0) rfl
  have x1 : W0.cell? ⟨w.heap.size, 1, none⟩ = _ := hX.cell (i := 1) rfl
  have x2 : W0.cell? ⟨w.heap.size, 2, none⟩ = _ := hX.cell (i := 2) rfl
  have x3 : W0.cell? ⟨w.heap.size, 3, none⟩ = _ := hX.cell (i := 3) rfl
  have x4 : W0.cell? ⟨w.heap.size, 4, none⟩ = _ := hX.cell (i := 4) rfl
  have x5 : W0.cell? ⟨w.heap.size, 5, none⟩ = _ := hX.cell (i := 5) rfl
  have x6 : W0.cell? ⟨w.heap.size, 6, none⟩ = _ := hX.cell (i := 6) rfl
  have x7 : W0.cell? ⟨w.heap.size, 7, none⟩ = _ := hX.cell (i := 7) rfl
  go_wp2_with fail
  refine (C1.out _).mono ?_; rintro r w1 ⟨rfl, rfl⟩
  cases b1
  · go_wp2
    go_ret
    exact ⟨rfl, hb0⟩
  cases b2
  · have hz : ¬ (m : Int) ≤ 100 := by have := of_decide_eq_false Hb2.out; omega
    have hz2 : (100 : Int) < (m : Int) := by omega
    go_wp2
    go_ret
    exact ⟨rfl, hb0⟩
  have hm100 : m ≤ 100 := of_decide_eq_true Hb2.out
  have hz : ¬ (100 : Int) < (m : Int) := by omega
  go_wp2_with fail
  refine (C3.out _ hb0).mono ?_; rintro r W1 ⟨rfl, hb1⟩
  have hbw1 := ext_trans hb0 hb1
  have hX1 := hX.ext hb1
  clear x0 x1 x2 x3 x4 x5 x6 x7 hX hb0 hb1 hsz C1 C3
  have x0 : W1.cell? ⟨w.heap.size, 0, none⟩ = _ := hX1.cell (i := 0) rfl
  have x1 : W1.cell? ⟨w.heap.size, 1, none⟩ = _ := hX1.cell (i := 1) rfl
  have x2 : W1.cell? ⟨w.heap.size, 2, none⟩ = _ := hX1.cell (i := 2) rfl
  have x3 : W1.cell? ⟨w.heap.size, 3, none⟩ = _ := hX1.cell (i := 3) rfl
  have x4 : W1.cell? ⟨w.heap.size, 4, none⟩ = _ := hX1.cell (i := 4) rfl
  have x5 : W1.cell? ⟨w.heap.size, 5, none⟩ = _ := hX1.cell (i := 5) rfl
  have x6 : W1.cell? ⟨w.heap.size, 6, none⟩ = _ := hX1.cell (i := 6) rfl
  have x7 : W1.cell? ⟨w.heap.size, 7, none⟩ = _ := hX1.cell (i := 7) rfl
  cases b3
  · go_wp2
    go_ret
    exact ⟨rfl, hbw1⟩
  go_wp2_with fail
  refine (C4.out _).mono ?_; rintro r W2 ⟨rfl, hb2⟩
  have hbw2 := hbw1.trans ((((Below.refl _ W1).alloc (Nat.le_refl _) _).trans (hb2.mono (by simp))).mono hbw1.size)
  have hX2 := (hX1.alloc (.cells ([lo, lk, lg, li, lt].flatMap encI).toArray 3)).ext hb2
  clear hX1 hbw1 hb2 x0 x1 x2 x3 x4 x5 x6 x7 C4
  cases b4
  · go_wp2
    go_ret
    exact ⟨rfl, hbw2⟩
  have h5 := Hfive.out rfl
  have x0 : W2.cell? ⟨w.heap.size, 0, none⟩ = _ := hX2.cell (i := 0) rfl
  have x1 : W2.cell? ⟨w.heap.size, 1, none⟩ = _ := hX2.cell (i := 1) rfl
  have x2 : W2.cell? ⟨w.heap.size, 2, none⟩ = _ := hX2.cell (i := 2) rfl
  have x3 : W2.cell? ⟨w.heap.size, 3, none⟩ = _ := hX2.cell (i := 3) rfl
  have x4 : W2.cell? ⟨w.heap.size, 4, none⟩ = _ := hX2.cell (i := 4) rfl
  have x5 : W2.cell? ⟨w.heap.size, 5, none⟩ = _ := hX2.cell (i := 5) rfl
  have x6 : W2.cell? ⟨w.heap.size, 6, none⟩ = _ := hX2.cell (i := 6) rfl
  have x7 : W2.cell? ⟨w.heap.size, 7, none⟩ = _ := hX2.cell (i := 7) rfl
  go_wp2
  clear x0 x1 x2 x3 x4 x5 x6 x7
  go_loopw [3, 43] (fun _ x wr => ∃ i : Nat, x = .int .i64 i ∧ i ≤ m ∧ Hid (∀ j, j < i → l.bagB j = true) ∧ Below W2.heap.size W2 wr) (fun _ x _ => m - (intOf x).toNat)
  case atStart => exact ⟨0, rfl, by omega, Lib.hid (fun j hj => by omega), Below.refl _ _⟩
  case round =>
    obtain ⟨i, rfl, hi, Hi, hb⟩ := hrel
    have hXr := hX2.ext hb
    have hbwr := ext_trans hbw2 hb
    have x0 : wr.cell? ⟨w.heap.size, 0, none⟩ = _ := hXr.cell (i := 0) rfl
    have x1 : wr.cell? ⟨w.heap.size, 1, none⟩ = _ := hXr.cell (i := 1) rfl
    have x2 : wr.cell? ⟨w.heap.size, 2, none⟩ = _ := hXr.cell (i := 2) rfl
    have x3 : wr.cell? ⟨w.heap.size, 3, none⟩ = _ := hXr.cell (i := 3) rfl
    have x4 : wr.cell? ⟨w.heap.size, 4, none⟩ = _ := hXr.cell (i := 4) rfl
    have x5 : wr.cell? ⟨w.heap.size, 5, none⟩ = _ := hXr.cell (i := 5) rfl
    have x6 : wr.cell? ⟨w.heap.size, 6, none⟩ = _ := hXr.cell (i := 6) rfl
    have x7 : wr.cell? ⟨w.heap.size, 7, none⟩ = _ := hXr.cell (i := 7) rfl
    by_cases hlt : i < m
    · have hlt' : (i : Int) < (m : Int) := by omega
      have CBi := Lib.hid (CB.out i wr hbwr hlt)
      have Hno := Lib.hid (fun (h : l.bagB i = false) => show b5 = false by
        rw [← Hb5.out, List.all_eq_false]
        exact ⟨i, by simpa using hlt, by rw [h]; simp⟩)
      have Hyes := Lib.hid (fun (h : l.bagB i = true) => show ∀ j, j < i + 1 → l.bagB j = true from fun j hj => by
        rcases Nat.lt_or_ge j i with h3 | h3
        · exact Hi.out j h3
        · obtain rfl : j = i := by omega
          exact h)
      generalize l.bagB i = bi at *
      go_wp2_with fail
      refine CBi.out.mono ?_; rintro r W3 ⟨rfl, hb3⟩
      cases bi
      · have hf : b5 = false := Hno.out rfl
        subst hf
        go_wp2
        go_ret
        exact ⟨rfl, ext_trans hbwr hb3⟩
      · go_wp2
        go_roundw
        case rel => exact ⟨i + 1, by go_num, by omega, Lib.hid (Hyes.out trivial), ext_trans hb hb3⟩
        case measure => simp [intOf]; omega
    · obtain rfl : i = m := by omega
      have hf : b5 = true := by
        rw [← Hb5.out, List.all_eq_true]
        exact fun j hj => Hi.out j (List.mem_range.1 hj)
      subst hf
      have hhold := Hhold.out rfl
      have hKw := hXr.lt
      have hmk := fun w => mk101 i (by omega) w
      go_upto_region 10 with fail
      have hK := Blk.new wr 4 (boolsL i fun _ => false)
      have hXk := hXr.alloc (.cells (boolsL i fun _ => false).toArray 4)
      have hbwk := hbwr.alloc hbwr.size (.cells (boolsL i fun _ => false).toArray 4)
      have hBr : Cells _ B 6 Bag.enc l.bags := hB.ext hbwk
      have hDr : Cells _ D 3 Dif.enc l.diffs := hD.ext hbwk
      have hszk : (wr.alloc (.cells (boolsL i fun _ => false).toArray 4)).heap.size = wr.heap.size + 1 := by simp
      have hszr := hbwr.size
      clear hX2 hXr hbw2 hb hbwr x0 x1 x2 x3 x4 x5 x6 x7 hmk CB Hi
      generalize wr.alloc (.cells (boolsL i fun _ => false).toArray 4) = W3 at *
      generalize wr.heap.size = K at *
      clear wr
      have x7 : W3.cell? ⟨w.heap.size, 7, none⟩ = _ := hXk.cell (i := 7) rfl
      go_wp2
      clear x7
      have hBne : ∀ p, B.map (·.block) = some p → 0 < i → p < w.heap.size := fun p hp h0 => by
        obtain ⟨b, off, e, hlt, -⟩ := hB.at6 (k := 0) (by rw [Hm.out]; omega) rfl
        subst e; simp at hp; subst hp; exact hlt
      have hDne : ∀ p, D.map (·.block) = some p → 0 < q → p < w.heap.size := fun p hp h0 => by
        obtain ⟨b, off, e, hlt, -⟩ := hD.at3 (k := 0) (by rw [Hq.out]; omega) rfl
        subst e; simp at hp; subst hp; exact hlt
      go_loopw [6, 7, 58] (fun _ _ x wr => ∃ j : Nat, x = .int .i64 j ∧ j ≤ q ∧ Hid (∀ k, k < j → difsB l k = true) ∧ Blk wr K 4 (boolsL i fun x => seenB l.diffs j x) ∧ Dr.Bel [K] W3 wr) (fun _ _ x _ => q - (intOf x).toNat)
      case atStart => exact ⟨0, rfl, by omega, Lib.hid (fun k hk => by omega), by simpa [seenB] using hK, Dr.Bel.refl _ _⟩
      case round =>
        clear hK
        obtain ⟨j, rfl, hj, Hj, hK, hb⟩ := hrel
        have hXr := hb.blk hXk (by simp; omega)
        by_cases hlt : j < q
        · have hlt' : (j : Int) < (q : Int) := by omega
          have hjl : j < l.diffs.length := by rw [Hq.out]; exact hlt
          obtain ⟨b, off, rfl, -, c0, c1, c2⟩ := (cells_bel hDr hb (fun p hp => by have := hDne p hp (by omega); simp; omega)).at3 hjl rfl
          have hdg : l.diffs.getD j default = l.diffs[j] := by simp [hjl]
          have hdj : difsB l j = (l.difB l.diffs[j] && !seenB l.diffs j l.diffs[j].bag) := by unfold difsB; rw [hdg]
          have Hdj := Lib.hid hdj
          have Hss := Lib.hid (seen_succ hjl)
          have Hno := Lib.hid (fun (h : difsB l j = false) => show b6 = false by
            rw [← Hb6.out, List.all_eq_false]
            exact ⟨j, by simpa using hlt, by rw [h]; simp⟩)
          have Hyes := Lib.hid (fun (h : difsB l j = true) => show ∀ k, k < j + 1 → difsB l k = true from fun k hk => by
            rcases Nat.lt_or_ge k j with h3 | h3
            · exact Hj.out k h3
            · obtain rfl : k = j := by omega
              exact h)
          clear hdj hdg
          generalize l.diffs[j] = x at *
          obtain ⟨db, dl, dk⟩ := x
          simp only at c0 c1 c2
          go_upto_region 13 with fail
          have hU := Blk.new wr 76 [.int .i64 db, .int .i64 dl, .bool dk]
          have hbU := hb.then_below ((ext_alloc wr (.cells #[.int .i64 db, .int .i64 dl, .bool dk] 76)).mono hb.size)
          have hKU := hK.alloc (.cells #[.int .i64 db, .int .i64 dl, .bool dk] 76)
          have hXU := hXr.alloc (.cells #[.int .i64 db, .int .i64 dl, .bool dk] 76)
          have hKlt := hK.lt
          clear hb hK hXr c0 c1 c2
          change Blk (wr.alloc (.cells #[.int .i64 db, .int .i64 dl, .bool dk] 76)) _ _ _ at hU
          generalize wr.alloc (.cells #[.int .i64 db, .int .i64 dl, .bool dk] 76) = W4 at *
          generalize wr.heap.size = U at *
          clear wr
          have hbwU : Below w.heap.size w W4 := hbwk.trans (hbU.old (by omega) (by simp; omega))
          have CW := Lib.hid (fun W => within_any db 0 ((i : Int) - 1) W)
          have Hdif := Lib.hid (show l.difB ⟨db, dl, dk⟩ = (decide (0 ≤ db ∧ db ≤ (i : Int) - 1) && ((l.bags.getD db.toNat default).opened && (decide (-1000000000000 ≤ dl ∧ dl ≤ 1000000000000) &&
            (decide (dk = (l.bags.getD db.toNat default).broken) && !(dl == 0 && !dk))))) by unfold Led.difB; rw [Hm.out])
          generalize hw1 : decide (0 ≤ db ∧ db ≤ (i : Int) - 1) = w1 at *
          have Hw1 := Lib.hid hw1
          clear hw1
          have x1 : W4.cell? ⟨w.heap.size, 1, none⟩ = _ := hXU.cell (i := 1) rfl
          have u0 : W4.cell? ⟨U, 0, none⟩ = _ := hU.cell (i := 0) rfl
          have u1 : W4.cell? ⟨U, 1, none⟩ = _ := hU.cell (i := 1) rfl
          have u2 : W4.cell? ⟨U, 2, none⟩ = _ := hU.cell (i := 2) rfl
          go_wp2_with fail
          refine (CW.out _).mono ?_; rintro r w9 ⟨rfl, rfl⟩
          cases w1
          · have hf : b6 = false := Hno.out (by rw [Hdj.out, Hdif.out]; rfl)
            subst hf
            go_wp2
            go_ret
            exact ⟨rfl, hbwU⟩
          have hdb := of_decide_eq_true Hw1.out
          obtain ⟨bi, rfl⟩ : ∃ bi : Nat, db = bi := ⟨db.toNat, by omega⟩
          have hbi : bi < i := by omega
          have hbi' : (bi : Int) < (i : Int) := by omega
          have k0 : W4.cell? ⟨K, bi, none⟩ = _ := hKU.cell (boolsL_get _ hbi)
          have Hset := Lib.hid (show (boolsL i fun x => seenB l.diffs j x).set bi (.bool true) = boolsL i fun x => seenB l.diffs (j + 1) x by
            rw [boolsL_set]; congr 1; funext y; rw [Hss.out]; congr 1; rw [Bool.eq_iff_iff]; simp; omega)
          generalize hsn : seenB l.diffs j (bi : Int) = sn at *
          have Hsn := Lib.hid hsn
          clear hsn
          cases sn
          case true =>
            have hf : b6 = false := Hno.out (by rw [Hdj.out]; simp)
            subst hf
            go_wp2
            go_ret
            exact ⟨rfl, hbwU⟩
          have hbl : bi < l.bags.length := by rw [Hm.out]; exact hbi
          obtain ⟨b', off', rfl, -, c0, c1, c2, c3, c4, c5⟩ := (cells_bel hBr hbU (fun p hp => by have := hBne p hp (by omega); simp; omega)).at6 hbl rfl
          have hbg : l.bags.getD (bi : Int).toNat default = l.bags[bi] := by simp [hbl]
          rw [hbg] at Hdif
          clear hbg
          generalize l.bags[bi] = y at *
          obtain ⟨y0, y1, y2, y3, y4, y5⟩ := y
          simp only at c0 c1 c2 c3 c4 c5
          go_upto_region 16 with fail
          have hV := Blk.new W4 80 [.int .i64 y0, .int .i64 y1, .int .i64 y2, .int .i64 y3, .int .i64 y4, .bool y5]
          have hbV := hbU.then_below ((ext_alloc W4 (.cells #[.int .i64 y0, .int .i64 y1, .int .i64 y2, .int .i64 y3, .int .i64 y4, .bool y5] 80)).mono hbU.size)
          have hKV := hKU.alloc (.cells #[.int .i64 y0, .int .i64 y1, .int .i64 y2, .int .i64 y3, .int .i64 y4, .bool y5] 80)
          have hUV := hU.alloc (.cells #[.int .i64 y0, .int .i64 y1, .int .i64 y2, .int .i64 y3, .int .i64 y4, .bool y5] 80)
          have hbwV := hbwU.alloc hbwU.size (.cells #[.int .i64 y0, .int .i64 y1, .int .i64 y2, .int .i64 y3, .int .i64 y4, .bool y5] 80)
          have hVlt : W4.heap.size < (W4.alloc (.cells #[.int .i64 y0, .int .i64 y1, .int .i64 y2, .int .i64 y3, .int .i64 y4, .bool y5] 80)).heap.size := by simp
          have hUlt := hU.lt
          clear hbU hKU hXU hU hbwU x1 u0 u1 u2 k0 c0 c1 c2 c3 c4 c5
          change Blk (W4.alloc (.cells #[.int .i64 y0, .int .i64 y1, .int .i64 y2, .int .i64 y3, .int .i64 y4, .bool y5] 80)) _ _ _ at hV
          generalize W4.alloc (.cells #[.int .i64 y0, .int .i64 y1, .int .i64 y2, .int .i64 y3, .int .i64 y4, .bool y5] 80) = W5 at *
          generalize W4.heap.size = V at *
          clear W4
          have CL := Lib.hid (fun W => within_any dl (-1000000000000) 1000000000000 W)
          have C9 := Lib.hid (fun W => broken_any ⟨y0, y1, y2, y3, y4, y5⟩ W)
          unfold Bag.val at C9
          simp only at C9 Hdif
          generalize decide (-1000000000000 ≤ dl ∧ dl ≤ 1000000000000) = wl at *
          generalize Bag.broken ⟨y0, y1, y2, y3, y4, y5⟩ = br at *
          refine Dr.wp_region_plan 26 [] (.q [0, 1, 2, 3, 4, 5] (.e1 6 (.q [7, 8, 9, 10, 11, 12] (.e1 13 (.q [14, 15, 16, 17, 18, 19, 20, 21, 22, 23, 24, 25] .done))))) (by kernel_rfl) (by kernel_rfl) ?_
          have hbd := hbV.then_below ((ext_drew W5).mono hbV.size)
          have hKd := hKV.drew
          have hVd := hV.drew
          have hUd := hUV.drew
          have hbwd := hbwV.drew
          clear hbV hKV hV hUV hbwV hVlt
          generalize W5.drew = W at *
          have q0 := Dr.cell0 (hVd.cell (i := 0) rfl)
          have q1 := Dr.cell0 (hVd.cell (i := 1) rfl)
          have q2 := Dr.cell0 (hVd.cell (i := 2) rfl)
          have q3 := Dr.cell0 (hVd.cell (i := 3) rfl)
          have q4 := Dr.cell0 (hVd.cell (i := 4) rfl)
          have q5 := Dr.cell0 (hVd.cell (i := 5) rfl)
          have q7 := Dr.cell0 (hUd.cell (i := 1) rfl)
          have q8 := Dr.cell0 (hUd.cell (i := 2) rfl)
          cases y5
          · have hf : b6 = false := Hno.out (by rw [Hdj.out, Hdif.out]; rfl)
            subst hf
            refine Dr.plan_q (l := [_, _, _, _, _, _]) rfl (fun K hK => ?_)
            iterate 6 (go_big_quiet_step (fail))
            refine wpQuiet_nil (hK _ ?_); clear hK K
            refine Dr.plan_e_skip rfl (by rfl) ?_
            go_frame
            refine Dr.plan_q (l := [_, _, _, _, _, _]) rfl (fun K hK => ?_)
            iterate 6 (go_big_quiet_step (fail))
            refine wpQuiet_nil (hK _ ?_); clear hK K
            refine Dr.plan_e_skip rfl (by rfl) ?_
            go_frame
            refine Dr.plan_q (l := [_, _, _, _, _, _, _, _, _, _, _, _]) rfl (fun K hK => ?_)
            iterate 12 (go_big_quiet_step (fail))
            refine wpQuiet_nil (hK _ ?_); clear hK K
            refine Dr.plan_end rfl ?_
            go_wp2
            go_ret
            exact ⟨rfl, hbwd⟩
          refine Dr.plan_q (l := [_, _, _, _, _, _]) rfl (fun K hK => ?_)
          iterate 6 (go_big_quiet_step (fail))
          refine wpQuiet_nil (hK _ ?_); clear hK K
          refine Dr.plan_e rfl (by rfl) (fun K hK => ?_)
          go_wp2_with fail
          refine (CL.out _).mono ?_; rintro r w9 ⟨rfl, rfl⟩
          refine hK _ _ (.refl _ _) ?_; clear hK K
          cases wl
          · have hf : b6 = false := Hno.out (by rw [Hdj.out, Hdif.out]; rfl)
            subst hf
            refine Dr.plan_q (l := [_, _, _, _, _, _]) rfl (fun K hK => ?_)
            iterate 6 (go_big_quiet_step (fail))
            refine wpQuiet_nil (hK _ ?_); clear hK K
            refine Dr.plan_e_skip rfl (by rfl) ?_
            go_frame
            refine Dr.plan_q (l := [_, _, _, _, _, _, _, _, _, _, _, _]) rfl (fun K hK => ?_)
            iterate 12 (go_big_quiet_step (fail))
            refine wpQuiet_nil (hK _ ?_); clear hK K
            refine Dr.plan_end rfl ?_
            go_wp2
            go_ret
            exact ⟨rfl, hbwd⟩
          refine Dr.plan_q (l := [_, _, _, _, _, _]) rfl (fun K hK => ?_)
          iterate 6 (go_big_quiet_step (fail))
          refine wpQuiet_nil (hK _ ?_); clear hK K
          refine Dr.plan_e rfl (by rfl) (fun K hK => ?_)
          go_wp2_with fail
          refine (C9.out _).mono ?_; rintro r w9 ⟨rfl, hb9⟩
          refine hK _ _ (.of hb9) ?_; clear hK K
          have hbe := hbd.then_below (hb9.mono hbd.size)
          have hKe := hKd.ext hb9
          have hbwe := ext_trans hbwd hb9
          have hUe := hUd.ext hb9
          clear q0 q1 q2 q3 q4 q5 q7 q8
          have q7 := Dr.cell0 (hUe.cell (i := 1) rfl)
          have q8 := Dr.cell0 (hUe.cell (i := 2) rfl)
          cases dk
          · cases br
            · by_cases hdl : dl = 0
              · have e0 : (dl == 0) = true := by simp [hdl]
                have hf : b6 = false := Hno.out (by rw [Hdj.out, Hdif.out, e0]; rfl)
                subst hf
                refine Dr.plan_q (l := [_, _, _, _, _, _, _, _, _, _, _, _]) rfl (fun K hK => ?_)
                iterate 12 (go_big_quiet_step (fail))
                refine wpQuiet_nil (hK _ ?_); clear hK K
                refine Dr.plan_end rfl ?_
                go_wp2
                go_ret
                exact ⟨rfl, hbwe⟩
              · have e0 : (dl == 0) = false := by simp [hdl]
                rw [e0] at Hdif
                refine Dr.plan_q (l := [_, _, _, _, _, _, _, _, _, _, _, _]) rfl (fun K hK => ?_)
                iterate 12 (go_big_quiet_step (fail))
                refine wpQuiet_nil (hK _ ?_); clear hK K
                have hok : difsB l j = true := by rw [Hdj.out, Hdif.out]; simp
                have Hok := Lib.hid (Hyes.out hok)
                clear hok
                refine Dr.plan_end rfl ?_
                have k0 : w9.cell? ⟨K, bi, none⟩ = _ := hKe.cell (boolsL_get _ hbi)
                have f0 := hKe.free bi
                have u0 : w9.cell? ⟨U, 0, none⟩ = _ := hUe.cell (i := 0) rfl
                clear q7 q8
                go_wp2
                have hK9 := hKe.set bi (.bool true)
                rw [Hset.out] at hK9
                go_roundw
                case rel => exact ⟨j + 1, by go_num, by omega, Hok, hK9, hbe.put (by simp) _⟩
                case measure => simp [intOf]; omega
            · have hf : b6 = false := Hno.out (by rw [Hdj.out, Hdif.out]; simp)
              subst hf
              refine Dr.plan_q (l := [_, _, _, _, _, _, _, _, _, _, _, _]) rfl (fun K hK => ?_)
              iterate 12 (go_big_quiet_step (fail))
              refine wpQuiet_nil (hK _ ?_); clear hK K
              refine Dr.plan_end rfl ?_
              go_wp2
              go_ret
              exact ⟨rfl, hbwe⟩
          · cases br
            · have hf : b6 = false := Hno.out (by rw [Hdj.out, Hdif.out]; simp)
              subst hf
              refine Dr.plan_q (l := [_, _, _, _, _, _, _, _, _, _, _, _]) rfl (fun K hK => ?_)
              iterate 12 (go_big_quiet_step (fail))
              refine wpQuiet_nil (hK _ ?_); clear hK K
              refine Dr.plan_end rfl ?_
              go_wp2
              go_ret
              exact ⟨rfl, hbwe⟩
            · by_cases hdl : dl = 0
              · have e0 : (dl == 0) = true := by simp [hdl]
                refine Dr.plan_q (l := [_, _, _, _, _, _, _, _, _, _, _, _]) rfl (fun K hK => ?_)
                iterate 12 (go_big_quiet_step (fail))
                refine wpQuiet_nil (hK _ ?_); clear hK K
                have hok : difsB l j = true := by rw [Hdj.out, Hdif.out]; simp
                have Hok := Lib.hid (Hyes.out hok)
                clear hok
                refine Dr.plan_end rfl ?_
                have k0 : w9.cell? ⟨K, bi, none⟩ = _ := hKe.cell (boolsL_get _ hbi)
                have f0 := hKe.free bi
                have u0 : w9.cell? ⟨U, 0, none⟩ = _ := hUe.cell (i := 0) rfl
                clear q7 q8
                go_wp2
                have hK9 := hKe.set bi (.bool true)
                rw [Hset.out] at hK9
                go_roundw
                case rel => exact ⟨j + 1, by go_num, by omega, Hok, hK9, hbe.put (by simp) _⟩
                case measure => simp [intOf]; omega
              · have e0 : (dl == 0) = false := by simp [hdl]
                refine Dr.plan_q (l := [_, _, _, _, _, _, _, _, _, _, _, _]) rfl (fun K hK => ?_)
                iterate 12 (go_big_quiet_step (fail))
                refine wpQuiet_nil (hK _ ?_); clear hK K
                have hok : difsB l j = true := by rw [Hdj.out, Hdif.out]; simp
                have Hok := Lib.hid (Hyes.out hok)
                clear hok
                refine Dr.plan_end rfl ?_
                have k0 : w9.cell? ⟨K, bi, none⟩ = _ := hKe.cell (boolsL_get _ hbi)
                have f0 := hKe.free bi
                have u0 : w9.cell? ⟨U, 0, none⟩ = _ := hUe.cell (i := 0) rfl
                clear q7 q8
                go_wp2
                have hK9 := hKe.set bi (.bool true)
                rw [Hset.out] at hK9
                go_roundw
                case rel => exact ⟨j + 1, by go_num, by omega, Hok, hK9, hbe.put (by simp) _⟩
                case measure => simp [intOf]; omega
        · obtain rfl : j = q := by omega
          have hf : b6 = true := by
            rw [← Hb6.out, List.all_eq_true]
            exact fun k hk => Hj.out k (List.mem_range.1 hk)
          subst hf
          have hbwr : Below w.heap.size w wr := hbwk.trans (hb.old (by omega) (by simp; omega))
          have hn10 : n ≤ 100 := by have := of_decide_eq_true Hb1.out; omega
          have CTw := Lib.hid (fun W hW => CT.out W hW hn10 h5.1 h5.2.1 (Hwin.out trivial) hhold)
          generalize isum l.windows = sw at *
          generalize isum (l.bags.map Bag.holds) = sb at *
          generalize l.total = tt at *
          obtain rfl := Htot.out
          have Hb7' := Lib.hid (show ((lo + lk + sw + sb) == (lg + li - lt)) = b7 by rw [← Hb7.out, Bool.eq_iff_iff]; simp)
          go_upto_region 20 with fail
          refine Dr.wp_region_plan 12 [] (.q [0, 2, 3, 4, 5, 6, 7, 8, 9] (.e1 1 (.q [10, 11] .done))) (by kernel_rfl) (by kernel_rfl) ?_
          have hXd := hXr.drew
          have hbwd := hbwr.drew
          clear hXr hbwr hb hK
          generalize wr.drew = W at *
          have q0 := Dr.cell0 (hXd.cell (i := 0) rfl)
          have q1 := Dr.cell0 (hXd.cell (i := 1) rfl)
          have q2 := Dr.cell0 (hXd.cell (i := 2) rfl)
          have q3 := Dr.cell0 (hXd.cell (i := 3) rfl)
          have q4 := Dr.cell0 (hXd.cell (i := 4) rfl)
          have q5 := Dr.cell0 (hXd.cell (i := 5) rfl)
          have q6 := Dr.cell0 (hXd.cell (i := 6) rfl)
          have q7 := Dr.cell0 (hXd.cell (i := 7) rfl)
          refine Dr.plan_q (l := [_, _, _, _, _, _, _, _, _]) rfl (fun K hK => ?_)
          iterate 9 (go_big_quiet_step (fail))
          refine wpQuiet_nil (hK _ ?_); clear hK K
          refine Dr.plan_e rfl (by rfl) (fun K hK => ?_)
          go_wp2_with fail
          refine (CTw.out W hbwd).mono ?_; rintro r w9 ⟨rfl, hb9⟩
          refine hK _ _ (.of hb9) ?_; clear hK K
          refine Dr.plan_q (l := [_, _]) rfl (fun K hK => ?_)
          iterate 2 (go_big_quiet_step (fail))
          refine wpQuiet_nil (hK _ ?_); clear hK K
          refine Dr.plan_end rfl ?_
          rw [Hb7'.out]
          go_wp2
          go_ret
          exact ⟨rfl, ext_trans hbwd hb9⟩

end Go.Proofs.YtnjdlhhgnamigaaGreat

/- Walks: rigging.Room on one point, without beams and loads: sums of rows. -/
import Derived.Shelf.Abstract
import Derived.Deep.DeepCutAuto
import Derived.Deep.CutBlock
import Derived.Deep.CutRange
import Derived.Deep.MidRow
import Derived.Maps.RangeWalk
import Derived.Laws.EntriesVeiled
import Derived.Laws.Rows
import Derived.Laws.Tables
import Derived.Test.YtilkoooahoecfaaGreatTooA
import Derived.Test.YtilkoooahoecfaaGreatProg
namespace Go.Rg
open Go.RowKit Go.Bs Go.Pl
/-- a row of 21 numbers -/
def rwC (f : Nat → Int) : List Value := (tab 21 f).map (Value.int .i64)
def rwV (f : Nat → Int) : Value := .agg (rwC f).toArray
def sumR (R : List (Nat → Int)) (i : Nat) : Int := Go.Pl.isum (R.map fun f => f i)
theorem rwC_len (f : Nat → Int) : (rwC f).length = 21 := by simp [rwC, tab_len]
theorem rwC_get (f : Nat → Int) {i : Nat} (h : i < 21) : (rwC f)[i]? = some (.int .i64 (f i)) := by simp [rwC, tab_get f h]
theorem rwC_one (f : Nat → Int) : ∀ v ∈ rwC f, v.oneCell' = true := fun v hv => by
  obtain ⟨x, -, rfl⟩ := List.mem_map.1 hv
  rfl
theorem rwC_set (f : Nat → Int) (k : Nat) (v : Int) : (rwC f).set k (.int .i64 v) = rwC (upd f k v) := by
  unfold rwC
  rw [← List.map_set, tab_set]
theorem rwC_congr {f g : Nat → Int} (h : ∀ i, i < 21 → f i = g i) : rwC f = rwC g := by
  unfold rwC tab
  congr 1
  exact List.map_congr_left fun i hi => h i (List.mem_range.1 hi)
/-- a row in a block of its own -/
def RwB (w : World) (B : Nat) (f : Nat → Int) : Prop := Blk w B 78 (rwC f)
theorem RwB.cell {w : World} {B : Nat} {f : Nat → Int} (h : RwB w B f) {i : Nat} (hi : i < 21) : w.cell? ⟨B, i, none⟩ = some (.int .i64 (f i)) := Blk.cell h (rwC_get f hi)
theorem RwB.range {w : World} {B : Nat} {f : Nat → Int} (h : RwB w B f) : w.rangeAt B 0 (rwC f) := fun j v hv => by
  rw [Nat.zero_add]; exact Blk.cell h hv
theorem RwB.there {w : World} {B : Nat} {f : Nat → Int} (h : RwB w B f) : w.there B 0 21 := fun j hj => by
  rw [Nat.zero_add, h.cell hj]; exact ⟨rfl, Blk.free h j⟩
theorem setCells_puts (b : Nat) : ∀ (r : List Value) (i : Nat) (w : World), w.setCells b i r = puts w b i r
  | [], _, _ => rfl
  | _ :: r, i, _ => setCells_puts b r (i + 1) _
theorem Blk.setAll {w : World} {B T : Nat} {cs r : List Value} (h : Blk w B T cs) (hl : r.length = cs.length) : Blk (w.setCells B 0 r) B T r := by
  rw [setCells_puts]; exact h.put_all hl
theorem rwC_lit (f : Nat → Int) : (rwC f).toArray = #[.int .i64 (f 0), .int .i64 (f 1), .int .i64 (f 2), .int .i64 (f 3), .int .i64 (f 4), .int .i64 (f 5), .int .i64 (f 6), .int .i64 (f 7), .int .i64 (f 8), .int .i64 (f 9), .int .i64 (f 10), .int .i64 (f 11), .int .i64 (f 12), .int .i64 (f 13), .int .i64 (f 14), .int .i64 (f 15), .int .i64 (f 16), .int .i64 (f 17), .int .i64 (f 18), .int .i64 (f 19), .int .i64 (f 20)] := by simp [rwC, tab, List.range, List.range.loop]
theorem RwB.new (w : World) (f : Nat → Int) : RwB (w.alloc (.cells #[.int .i64 (f 0), .int .i64 (f 1), .int .i64 (f 2), .int .i64 (f 3), .int .i64 (f 4), .int .i64 (f 5), .int .i64 (f 6), .int .i64 (f 7), .int .i64 (f 8), .int .i64 (f 9), .int .i64 (f 10), .int .i64 (f 11), .int .i64 (f 12), .int .i64 (f 13), .int .i64 (f 14), .int .i64 (f 15), .int .i64 (f 16), .int .i64 (f 17), .int .i64 (f 18), .int .i64 (f 19), .int .i64 (f 20)] 78)) w.heap.size f := by rw [← rwC_lit]; exact Blk.new w 78 _
theorem RwB.zero (w : World) : RwB (w.alloc (.cells #[.int .i64 0, .int .i64 0, .int .i64 0, .int .i64 0, .int .i64 0, .int .i64 0, .int .i64 0, .int .i64 0, .int .i64 0, .int .i64 0, .int .i64 0, .int .i64 0, .int .i64 0, .int .i64 0, .int .i64 0, .int .i64 0, .int .i64 0, .int .i64 0, .int .i64 0, .int .i64 0, .int .i64 0] 78)) w.heap.size (fun _ => 0) := RwB.new w fun _ => 0
theorem below_setCells {n : Nat} {a : World} {b : Nat} (hb : n ≤ b) : ∀ (r : List Value) (i : Nat) {w : World}, Below n a w → Below n a (w.setCells b i r)
  | [], _, _, h => h
  | v :: r, i, _, h => below_setCells hb r (i + 1) (h.setCell (p := ⟨b, i, none⟩) hb v)
theorem Blk.apart {B T b : Nat} {cs : List Value} (hB : B ≠ b) : ∀ (r : List Value) (i : Nat) {w : World}, Blk w B T cs → Blk (w.setCells b i r) B T cs
  | [], _, _, h => h
  | v :: r, i, _, h => Blk.apart hB r (i + 1) (h.other (p := ⟨b, i, none⟩) hB v)
/-- a new row, and what was there -/
theorem RwB.made (w : World) (f : Nat → Int) : ∃ W, (w.alloc (.cells #[.int .i64 0, .int .i64 0, .int .i64 0, .int .i64 0, .int .i64 0, .int .i64 0, .int .i64 0, .int .i64 0, .int .i64 0, .int .i64 0, .int .i64 0, .int .i64 0, .int .i64 0, .int .i64 0, .int .i64 0, .int .i64 0, .int .i64 0, .int .i64 0, .int .i64 0, .int .i64 0, .int .i64 0] 78)).setCells w.heap.size 0 (rwC f) = W ∧ RwB W w.heap.size f ∧ Below w.heap.size w W ∧ w.heap.size < W.heap.size := by
  have hz := RwB.zero w
  have hD : RwB ((w.alloc (.cells #[.int .i64 0, .int .i64 0, .int .i64 0, .int .i64 0, .int .i64 0, .int .i64 0, .int .i64 0, .int .i64 0, .int .i64 0, .int .i64 0, .int .i64 0, .int .i64 0, .int .i64 0, .int .i64 0, .int .i64 0, .int .i64 0, .int .i64 0, .int .i64 0, .int .i64 0, .int .i64 0, .int .i64 0] 78)).setCells w.heap.size 0 (rwC f)) w.heap.size f := Blk.setAll hz (by rw [rwC_len, rwC_len])
  exact ⟨_, rfl, hD, below_setCells (Nat.le_refl _) _ _ (ext_alloc w _), Blk.lt hD⟩
end Go.Rg
namespace Go.Proofs.YtilkoooahoecfaaGreat.Rg
open Go.RowKit Go.Bs Go.Pl Go.Sort Go.Rg
theorem hi78 (f : Nat → Int) : (Tryz.prog.info? 78).map (·.size) = some (rwC f).length := by rw [rwC_len]; kernel_rfl
theorem u78 : Tryz.prog.underlying 78 = some (.array 21 3) := by kernel_rfl
theorem ld_row {ops : Array Oper} {rest : List Oper} {op : Oper} {a : Act} {w : World} {Q : Exit → Act → World → Prop} (hgd : op.guard = none) (x : Operand) (ho : op.op = .load 78 x)
    (b o : Nat) (hx : a.eval x = .pointer (some ⟨b, o, none⟩)) (f : Nat → Int) (hc : w.rangeAt b o (rwC f))
    (h : wpList Tryz.prog ops Q rest (a.put op.dst (rwV f)) w) : wpList Tryz.prog ops Q (op :: rest) a w :=
  wpList_load_mid hgd 78 x ho b o hx (rwC f) _ hc u78 rfl (hi78 f) h
theorem st_row {ops : Array Oper} {rest : List Oper} {op : Oper} {a : Act} {w : World} {Q : Exit → Act → World → Prop} (hgd : op.guard = none) (x y : Operand) (ho : op.op = .store 78 x y)
    (b o : Nat) (f : Nat → Int) (hx : a.eval x = .pointer (some ⟨b, o, none⟩)) (hy : a.eval y = rwV f) (ht : w.there b o 21)
    (h : wpList Tryz.prog ops Q rest (a.put op.dst undef) (w.setCells b o (rwC f))) : wpList Tryz.prog ops Q (op :: rest) a w :=
  wpList_store_mid hgd 78 x y ho b o (rwC f).toArray hx hy (by simpa [rwC_len] using ht) (by simpa using hi78 f) (all_oneCell_toArray (rwC_one f)) (by simpa using h)
theorem sumR_take {R : List (Nat → Int)} {j : Nat} (hj : j < R.length) (i : Nat) : sumR (R.take (j + 1)) i = sumR (R.take j) i + R[j] i := by
  unfold sumR
  rw [List.take_succ_eq_append_getElem hj, List.map_append, isum_append]
  simp [isum]
theorem sumR_bd {R : List (Nat → Int)} (hb : ∀ f ∈ R, ∀ i, -1000000000000 ≤ f i ∧ f i ≤ 1000000000000) (i : Nat) : ∀ j, j ≤ R.length → -(1000000000000 * (j : Int)) ≤ sumR (R.take j) i ∧ sumR (R.take j) i ≤ 1000000000000 * (j : Int)
  | 0, _ => by simp [sumR, isum]
  | j + 1, hj => by
    have h1 := sumR_bd hb i j (by omega)
    rw [sumR_take (by omega) i]
    have h2 := hb _ (List.getElem_mem (show j < R.length by omega)) i
    omega
set_option maxRecDepth 100000 in
set_option maxHeartbeats 1000000 in
theorem sum_any (R : List (Nat → Int)) (A : Option Addr) (n c : Nat) (w : World) (hn : R.length = n) (hm : n ≤ 1000) (hd : Cells w A 21 rwC R) (hb : ∀ f ∈ R, ∀ i, -1000000000000 ≤ f i ∧ f i ≤ 1000000000000) :
    Calls Tryz.prog 44 #[.slice A n c] w fun e w' => e = .returned (rwV (sumR R)) ∧ Below w.heap.size w w' := by
  have Hn := Lib.hid hn
  have hx0 := ext_alloc w (.cells #[.int .i64 0, .int .i64 0, .int .i64 0, .int .i64 0, .int .i64 0, .int .i64 0, .int .i64 0, .int .i64 0, .int .i64 0, .int .i64 0, .int .i64 0, .int .i64 0, .int .i64 0, .int .i64 0, .int .i64 0, .int .i64 0, .int .i64 0, .int .i64 0, .int .i64 0, .int .i64 0, .int .i64 0] 78)
  have hB0 := RwB.zero w
  go_enter Tryz.func44, Tryz.ntmps44
  go_upto_region 2 with fail
  generalize w.alloc _ = W0 at *
  go_loopw [4, 5, 8] (fun _ _ t wr => ∃ j : Nat, t = .int .i64 j ∧ j ≤ n ∧ RwB wr w.heap.size (sumR (R.take j)) ∧ Below w.heap.size w wr) (fun _ _ t _ => n - (intOf t).toNat)
  case atStart => exact ⟨0, rfl, by omega, hB0, hx0⟩
  case round =>
    obtain ⟨j, rfl, hj, hB, hbr⟩ := hrel
    by_cases hlt : j < n
    · have hj1 : j < R.length := by rw [Hn.out]; exact hlt
      obtain ⟨b, off, rfl, hc⟩ := (hd.ext hbr).at hj1
      have hrg : wr.rangeAt b (off + j * 21) (rwC R[j]) := fun i v hv => by rw [Nat.add_assoc]; exact hc i v hv
      have hbd : ∀ i, -1000000000000 ≤ R[j] i ∧ R[j] i ≤ 1000000000000 := hb _ (List.getElem_mem hj1)
      have hst := sumR_take hj1
      have hsb : ∀ i, -(1000000000000 * (j : Int)) ≤ sumR (R.take j) i ∧ sumR (R.take j) i ≤ 1000000000000 * (j : Int) := fun i => sumR_bd hb i j (by omega)
      generalize R[j] = f at *
      go_wp2_with (first | refine ld_row rfl _ rfl b (off + j * 21) rfl f hrg ?_ | refine st_row rfl _ _ rfl wr.heap.size 0 f rfl rfl (RwB.zero wr).there ?_)
      obtain ⟨W4, hW4, hD, hb4, hs4⟩ := RwB.made wr f
      rw [hW4]
      have hB4 : RwB W4 w.heap.size (sumR (R.take j)) := Blk.ext hB hb4
      have hbw := ext_trans hbr hb4
      have hne : w.heap.size ≠ wr.heap.size := by have := Blk.lt hB; omega
      have hle := hbr.size
      clear hW4 hB hrg hc hb4 hb
      have Hst := Lib.hid hst
      have Hbd := Lib.hid hbd
      have Hsb := Lib.hid hsb
      clear hst hbd hsb
      have hN : (j : Int) < 1000 := by omega
      generalize hsf : sumR (R.take j) = g at *
      generalize hsf2 : sumR (R.take (j + 1)) = g2 at *
      have Hg2 := Lib.hid hsf2
      clear hsf hsf2
      generalize wr.heap.size = T4 at *
      generalize wr = Wo at *
      go_loopw [5, 12] (fun _ t wr => ∃ k : Nat, t = .int .i64 k ∧ k ≤ 21 ∧ RwB wr w.heap.size (fun i => if i < k then g2 i else g i) ∧ RwB wr T4 f ∧ Below w.heap.size w wr) (fun _ t _ => 21 - (intOf t).toNat)
      case atStart => exact ⟨0, rfl, by omega, by simpa using hB4, hD, hbw⟩
      case round =>
        obtain ⟨k, rfl, hk, hB, hD, hbr⟩ := hrel
        by_cases hlk : k < 21
        · have hlk' : (k : Int) < 21 := by omega
          have hk0 : (0 : Int) ≤ k := by omega
          have b1 := Hbd.out k
          have b2 := Hsb.out k
          have h2 := Hst.out k
          go_upto_region 7 with fail
          refine Dr.wp_region_plan 8 [] (.q [0, 1, 2, 3, 4, 5, 6, 7] .done) (by kernel_rfl) (by kernel_rfl) ?_
          have hbd := hbr.drew
          have hBd : RwB wr.drew _ _ := Blk.drew hB
          have hDd : RwB wr.drew _ _ := Blk.drew hD
          clear hbr hB hD
          generalize World.drew wr = V at *
          have r1 := hBd.cell hlk
          have r2 := hDd.cell hlk
          have f1 := Blk.free hBd k
          simp only [Nat.lt_irrefl, if_false] at r1
          generalize hx : g k = x at *
          generalize hy : f k = y at *
          have Hxy := Lib.hid h2
          clear h2
          have q1 := Dr.cell0 r1
          have q2 := Dr.cell0 r2
          have hw : wrap64 (x + y) = x + y := by unfold wrap64; omega
          with_reducible refine Dr.plan_q (l := [_, _, _, _, _, _, _, _]) (by with_unfolding_all exact rfl) (fun K hK => ?_)
          iterate 8 (go_big_quiet_step (fail))
          refine wpQuiet_nil (hK _ ?_); clear hK K
          clear q1 q2
          refine Dr.plan_done (tl := [_]) rfl ?_
          go_wp2
          go_roundw
          case rel =>
            refine ⟨k + 1, by go_num, by omega, ?_, Blk.other hDd (by simpa using fun e => hne e.symm) _, hbd.setCell (Nat.le_refl _) _⟩
            have := Blk.set hBd k (.int .i64 (x + y))
            rw [rwC_set] at this
            refine Eq.mp (congrArg (fun l => Blk _ _ 78 l) (rwC_congr fun i hi => ?_)) this
            unfold upd
            by_cases e : i = k
            · subst e; simp [Hxy.out]
            · rw [if_neg e]
              show (if i < k then g2 i else g i) = _
              by_cases e2 : i < k
              · rw [if_pos e2, if_pos (by omega)]
              · rw [if_neg e2, if_neg (by omega)]
          case measure => simp [intOf]; omega
        · obtain rfl : k = 21 := by omega
          have hB2 : RwB wr w.heap.size g2 := Eq.mp (congrArg (fun l => Blk _ _ 78 l) (rwC_congr fun i hi => if_pos hi)) hB
          clear hB hD
          go_wp2
          go_roundw
          case rel => exact ⟨j + 1, by go_num, by omega, by rw [Hg2.out]; exact hB2, hbr⟩
          case measure => simp [intOf]; omega
    · obtain rfl : j = n := by omega
      rw [List.take_of_length_le (by rw [Hn.out]; exact Nat.le_refl _)] at hB
      go_wp2_with (first | refine ld_row rfl _ rfl w.heap.size 0 rfl (sumR R) hB.range ?_ | refine st_row rfl _ _ rfl w.heap.size 0 (sumR R) rfl rfl hB.there ?_)
      have hE : RwB (wr.setCells w.heap.size 0 (rwC (sumR R))) w.heap.size (sumR R) := Blk.setAll hB (by rw [rwC_len])
      have hbe := below_setCells (Nat.le_refl _) (rwC (sumR R)) 0 hbr
      generalize wr.setCells w.heap.size 0 (rwC (sumR R)) = W5 at *
      exact bodyPost_ret (results_cell_row rfl _ _ _ _ _ _ _ rfl hE u78 rfl (by simpa using hi78 (sumR R))) rfl ⟨rfl, hbe⟩
end Go.Proofs.YtilkoooahoecfaaGreat.Rg

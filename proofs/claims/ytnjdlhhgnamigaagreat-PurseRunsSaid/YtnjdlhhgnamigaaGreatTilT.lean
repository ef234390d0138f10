/- Walk: the tables of a till: one row. -/
import Derived.Test.YtnjdlhhgnamigaaGreatTilR
import Derived.Test.YtnjdlhhgnamigaaGreatSetD
import Derived.Test.YtnjdlhhgnamigaaGreatSetQ
namespace Go.Pu
open Go.Pl
theorem Tl.ways_yes {t : Tl} (h : t.ok) {i a q : Nat} (hi : i < t.vals.length) (hq : q < t.ways i a) : q ≤ t.c i ∧ q * t.v i ≤ a := by
  have := h.v_bd hi
  unfold Tl.ways at hq
  exact ⟨by omega, (Nat.le_div_iff_mul_le (by omega)).1 (by omega)⟩
theorem Tl.ways_no {t : Tl} (h : t.ok) {i a q : Nat} (hi : i < t.vals.length) (hq : ¬ q < t.ways i a) : t.c i < q ∨ (q ≤ t.c i ∧ a < q * t.v i) := by
  have hv := h.v_bd hi
  unfold Tl.ways at hq
  rcases Nat.lt_or_ge (t.c i) q with h1 | h1
  · exact .inl h1
  · refine .inr ⟨h1, ?_⟩
    rcases Nat.lt_or_ge a (q * t.v i) with h2 | h2
    · exact h2
    · have := (Nat.le_div_iff_mul_le (k := t.v i) (by omega)).2 h2
      omega
end Go.Pu
namespace Go.Proofs.YtnjdlhhgnamigaaGreat
open Go.RowKit Go.Bs Go.Pu Go.Pl Go.Sort

/-- a table's row -/
def RowV (w : World) (t : Tl) (N j : Nat) (v : Value) : Prop := ∃ g, v = .slice (some ⟨g, 0, none⟩) N N ∧ IArr w g 3 (tab N (t.row j))

set_option maxRecDepth 100000 in
set_option maxHeartbeats 4000000 in
theorem fill_any (t : Tl) (hok : t.ok) (A B : Option Addr) (n c d most i : Nat) (Bm Bt Bo O : Nat) (rows : List Value) (w : World) (hn : t.vals.length = n) (hi : i < n) (hmost : most ≤ 5000)
    (hA : Cells w A 1 encI t.vals) (hB : Cells w B 1 encI t.cnts) (hM : Blk w Bm 3 [.int .i64 most]) (hT : Blk w Bt 59 [.slice A n c, .slice B n d])
    (hO : Blk w Bo 90 [.slice (some ⟨O, 0, none⟩) (n + 1) (n + 1)]) (hR : Blk w O 22 rows) (hrl : rows.length = n + 1) (v : Value) (hv : rows[i + 1]? = some v) (hrow : RowV w t (most + 1) (i + 1) v) :
    Calls Tryz.prog 64 #[.int .i64 i, .pointer (some ⟨Bm, 0, none⟩), .pointer (some ⟨Bt, 0, none⟩), .pointer (some ⟨Bo, 0, none⟩)] w fun e w' =>
      e = .returned (.tuple #[]) ∧ ∃ g, w.heap.size ≤ g ∧ IArr w' g 3 (tab (most + 1) (t.row i)) ∧ Blk w' O 22 (rows.set i (.slice (some ⟨g, 0, none⟩) (most + 1) (most + 1))) ∧ Dr.Bel [O] w w' := by
  obtain ⟨G, rfl, hG⟩ := hrow
  have hmk := fun w => mk27n (most + 1) (by omega) w
  simp only [Int.natCast_add, Int.natCast_one] at hmk
  have hit : i < t.vals.length := by omega
  have hic : i < t.cnts.length := by rw [hok.eq]; omega
  obtain ⟨bA, offA, rfl, hltA, cA⟩ := hA.at1 hit rfl
  obtain ⟨bB, offB, rfl, hltB, cB⟩ := hB.at1 hic rfl
  rw [hok.v_eq hit] at cA
  rw [hok.c_eq hit] at cB
  have hvb := hok.v_bd hit
  have hcb := hok.c_bd hit
  have hn8 : n ≤ 8 := by have := hok.len; omega
  have Hok := Lib.hid hok
  have Hit := Lib.hid hit
  have Hrl := Lib.hid hrl
  have Hrb := Lib.hid (fun j a => Tl.row_bd hok j a)
  clear hA hB hok hit hic hrl
  have cM : w.cell? ⟨Bm, 0, none⟩ = _ := hM.cell rfl
  go_enter Tryz.func64, Tryz.ntmps64
  go_upto_region 1 with fail
  have hI : IArr (w.alloc (.cells ((tab (most + 1) fun _ => 0).map (Value.int .i64)).toArray 3)) w.heap.size 3 (parN (most + 1) (t.row i) 0) := by rw [parN_zero]; exact Blk.new w 3 _
  have hb0 : Dr.Bel [w.heap.size] w (w.alloc (.cells ((tab (most + 1) fun _ => 0).map (Value.int .i64)).toArray 3)) := Dr.Bel.of (ext_alloc _ _)
  clear hmk cM
  generalize w.alloc (.cells ((tab (most + 1) fun _ => 0).map (Value.int .i64)).toArray 3) = W1 at *
  go_wp2
  go_loopw [6, 7, 13] (fun _ _ x wr => ∃ k : Nat, x = .int .i64 k ∧ k ≤ most + 1 ∧ IArr wr w.heap.size 3 (parN (most + 1) (t.row i) k) ∧ Dr.Bel [w.heap.size] w wr) (fun _ _ x _ => most + 1 - (intOf x).toNat)
  case atStart => exact ⟨0, rfl, by omega, hI, hb0⟩
  case round =>
    clear hI hb0
    obtain ⟨k, rfl, hk, hI, hb⟩ := hrel
    by_cases hlt : k < most + 1
    · have hlt' : (k : Int) < ((most + 1 : Nat) : Int) := by omega
      have hkm : k ≤ most := by omega
      have hrk := t.row_eq Hit.out k
      have hst := parN_set (most + 1) (t.row i) k
      have hlen : (parN (most + 1) (t.row i) k).length = most + 1 := by unfold parN; rw [tab_len]
      have Hrk := Lib.hid hrk
      have Hst := Lib.hid hst
      have Hlen := Lib.hid hlen
      clear hrk hst hlen
      generalize parN (most + 1) (t.row i) k = P at *
      have c0 : wr.cell? ⟨w.heap.size, k, none⟩ = _ := hI.cell (i := k) (x := P[k]'(by rw [Hlen.out]; exact hlt)) (by simp)
      have f0 := hI.free k
      have hw0 : t.ways i k = t.ways i k := rfl
      go_upto_region 5 with fail
      have hI2 := hI.set k 401
      have hb2 := hb.put (p := ⟨w.heap.size, k, none⟩) (by simp) (.int .i64 401)
      clear hI hb c0 f0 hw0
      generalize wr.setCell ⟨w.heap.size, k, none⟩ (.int .i64 401) = W2 at *
      clear wr
      go_wp2
      go_loopw [7] (fun x wr => ∃ q : Nat, x = .int .i64 q ∧ q ≤ t.ways i k ∧ IArr wr w.heap.size 3 (P.set k (bestN (t.row (i + 1)) (t.v i) k q)) ∧ Dr.Bel [w.heap.size] w wr) (fun x _ => t.ways i k - (intOf x).toNat)
      case atStart => exact ⟨0, rfl, by omega, hI2, hb2⟩
      case round =>
        clear hI2 hb2
        obtain ⟨q, rfl, hq, hI, hb⟩ := hrel
        have hTr := hb.blk hT (by have := hT.lt; simp; omega)
        have hOr := hb.blk hO (by have := hO.lt; simp; omega)
        have hRr := hb.blk hR (by have := hR.lt; simp; omega)
        have hGr : IArr wr G 3 _ := hb.blk hG (by have := hG.lt; simp; omega)
        have t0 : wr.cell? ⟨Bt, 0, none⟩ = _ := hTr.cell rfl
        have t1 : wr.cell? ⟨Bt, 1, none⟩ = _ := hTr.cell rfl
        have d0 := (World.cell?_of_block (hb.block bA hltA (by simp; omega))).trans cA
        have d1 := (World.cell?_of_block (hb.block bB hltB (by simp; omega))).trans cB
        by_cases hqw : q < t.ways i k
        · obtain ⟨hq1, hq2⟩ := Tl.ways_yes Hok.out Hit.out hqw
          generalize hp : q * t.v i = p at *
          have hpi : (q : Int) * (t.v i : Int) = (p : Int) := by rw [← hp]; simp
          have hq1' : (q : Int) ≤ (t.c i : Int) := by omega
          have hq2' : (p : Int) ≤ (k : Int) := by omega
          obtain ⟨dd, hdd⟩ : ∃ dd : Nat, k - p = dd := ⟨_, rfl⟩
          have hdi : (k : Int) - (p : Int) = (dd : Int) := by omega
          go_upto_region 8 with fail
          refine Dr.wp_region_plan 26 [] (.q [0, 1, 2, 3, 4, 5, 6, 7, 8, 9, 10, 11, 12, 13, 14, 15, 16, 17, 18, 19, 20, 21, 22, 23, 24, 25] .done) (by kernel_rfl) (by kernel_rfl) ?_
          have hb3 := hb.then_below ((ext_drew wr).mono hb.size)
          have hI3 : IArr wr.drew w.heap.size 3 _ := Blk.drew hI
          have hTd := hTr.drew
          have hOd := hOr.drew
          have hRd := hRr.drew
          have hGd : IArr wr.drew G 3 _ := Blk.drew hGr
          have q0 := Dr.cell0 (hTd.cell (i := 0) rfl)
          have q1 := Dr.cell0 (hOd.cell (i := 0) rfl)
          have q2 := Dr.cell0 (hRd.cell hv)
          have q3 := Dr.cell0 (hGd.cell (i := dd) (tab_get _ (by omega)))
          have q4 := Dr.cell0 (hI3.cell (i := k) (x := bestN (t.row (i + 1)) (t.v i) k q) (by simp [Hlen.out, hlt]))
          have q5 := Dr.cell0 (w := wr.drew) d0
          have hrb := Hrb.out (i + 1) dd
          clear hI hb hTr hOr hRr hGr t0 t1 d0 d1 hTd hOd hRd hGd
          generalize wr.drew = W at *
          refine Dr.plan_q (l := [_, _, _, _, _, _, _, _, _, _, _, _, _, _, _, _, _, _, _, _, _, _, _, _, _, _]) rfl (fun K hK => ?_)
          iterate 26 (go_big_quiet_step (fail))
          refine wpQuiet_nil (hK _ ?_); clear hK K
          clear q0 q1 q2 q3 q4 q5
          have c0 : W.cell? ⟨w.heap.size, k, none⟩ = _ := hI3.cell (i := k) (x := bestN (t.row (i + 1)) (t.v i) k q) (by simp [Hlen.out, hlt])
          have f0 := hI3.free k
          refine Dr.plan_done (tl := [_]) rfl ?_
          go_wp2
          rw [show (if t.row (i + 1) dd + (q : Int) < bestN (t.row (i + 1)) (t.v i) k q then t.row (i + 1) dd + (q : Int) else bestN (t.row (i + 1)) (t.v i) k q) = bestN (t.row (i + 1)) (t.v i) k (q + 1) by
            rw [show bestN (t.row (i + 1)) (t.v i) k (q + 1) = min (bestN (t.row (i + 1)) (t.v i) k q) (t.row (i + 1) (k - q * t.v i) + q) from rfl, hp, hdd]
            omega]
          have hI4 := hI3.set k (bestN (t.row (i + 1)) (t.v i) k (q + 1))
          rw [List.set_set] at hI4
          go_roundw
          case rel => exact ⟨q + 1, by go_num, by omega, hI4, hb3.put (by simp) _⟩
          case measure => simp [intOf]; omega
        · obtain rfl : q = t.ways i k := by omega
          have hbw := bestN_le (t.row (i + 1)) (t.v i) k (t.ways i k)
          have hb401 := hbw.1
          rw [← Hrk.out] at hI hb401
          have HI := Lib.hid hI
          clear hI hbw hRr hGr hOr
          have c0 : wr.cell? ⟨w.heap.size, k, none⟩ = _ := HI.out.cell (i := k) (x := t.row i k) (by simp [Hlen.out, hlt])
          have f0 := HI.out.free k
          have hrw := Hrk.out
          have hfin : ∀ W', W' = wr.setCell ⟨w.heap.size, k, none⟩ (.int .i64 (t.row i k)) → IArr W' w.heap.size 3 (parN (most + 1) (t.row i) (k + 1)) ∧ Dr.Bel [w.heap.size] w W' := fun W' e => by
            have h1 := HI.out.set k (t.row i k)
            rw [List.set_set, Hst.out] at h1
            rw [e]
            exact ⟨h1, hb.put (by simp) _⟩
          have Hfin := Lib.hid hfin
          have hmin : (if (401 : Int) < t.row i k then 401 else t.row i k) = t.row i k := by omega
          clear hfin hrw hb401
          rcases Tl.ways_no Hok.out Hit.out hqw with h1 | ⟨h1, h2⟩
          · have h1' : ¬ (t.ways i k : Int) ≤ (t.c i : Int) := by omega
            clear hqw h1
            go_wp2
            go_roundw
            case rel => exact ⟨k + 1, by go_num, by omega, (Hfin.out _ rfl).1, (Hfin.out _ rfl).2⟩
            case measure => simp [intOf]; omega
          · have h1' : (t.ways i k : Int) ≤ (t.c i : Int) := by omega
            generalize hp : t.ways i k * t.v i = p at *
            have hpi : (t.ways i k : Int) * (t.v i : Int) = (p : Int) := by rw [← hp]; simp
            have h2' : ¬ (p : Int) ≤ (k : Int) := by omega
            have hpb : p ≤ 50 * 1000 := by rw [← hp]; exact Nat.mul_le_mul (by omega) (by omega)
            clear hqw h1 h2
            go_wp2
            go_roundw
            case rel => exact ⟨k + 1, by go_num, by omega, (Hfin.out _ rfl).1, (Hfin.out _ rfl).2⟩
            case measure => simp [intOf]; omega
    · obtain rfl : k = most + 1 := by omega
      rw [parN_full] at hI
      have hOr := hb.blk hO (by have := hO.lt; simp; omega)
      have hRr := hb.blk hR (by have := hR.lt; simp; omega)
      have o0 : wr.cell? ⟨Bo, 0, none⟩ = _ := hOr.cell rfl
      have f0 := hRr.free i
      have hil : i < rows.length := by have := Hrl.out; omega
      have r0 : wr.cell? ⟨O, i, none⟩ = _ := hRr.cell (i := i) (v := rows[i]) (by simp [hil])
      have hOlt := hR.lt
      go_wp2
      go_end0
      have hs := hb.size
      refine ⟨rfl, w.heap.size, Nat.le_refl _, IArr.other hI (by simp; omega) _, hRr.set i _, ⟨hb.os, hb.tape, hb.output, by simpa [World.setCell] using hs, fun q hq hm => ?_⟩⟩
      rw [Below.heap_setCell _ _ _ _ (by simpa using hm)]
      exact hb.block q hq (by simp; omega)
end Go.Proofs.YtnjdlhhgnamigaaGreat

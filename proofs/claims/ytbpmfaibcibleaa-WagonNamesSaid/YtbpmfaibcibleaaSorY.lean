/- Walks: falling, numbers. (Printed by mk_sory.py.) -/
import Derived.Test.YtbpmfaibcibleaaSorX
namespace Go.Proofs.Ytbpmfaibcibleaa
open Go.RowKit Go.Bs Go.Wg Go.Pl Go.Sort
theorem fall1_any (x : Int) (P : Nat) (v : JbV) (ts : List Th) (W : World) (hP : Blk W P 108 (JbV.enc v ts)) (ht : Cells W v.T 4 Th.enc ts) (hx : 0 ≤ x ∧ x < ts.length) (hn : 0 ≤ (thAt ts x).need ∧ (thAt ts x).need ≤ 1000) :
    Calls Try.prog 129 #[.int .i64 x, .pointer (some ⟨P, 0, none⟩)] W fun e w' => e = .returned (.int .i64 (-(thAt ts x).need)) ∧ W = w' := by
  obtain ⟨j, rfl⟩ : ∃ j : Nat, x = j := ⟨x.toNat, by omega⟩
  have hjt : j < ts.length := by omega
  rw [thAt_eq hjt] at hn ⊢
  have y7 := hP.cell (i := 7) rfl
  obtain ⟨b, off, hT, -, -, -, -, d3⟩ := ht.at4 hjt rfl
  rw [hT] at y7
  have hlt := hP.lt
  clear hP ht hT
  generalize ts[j].need = m at *
  go_enter Try.func129, Try.ntmps129
  go_wp2
  go_ret
  exact ⟨rfl, rfl⟩
set_option maxHeartbeats 1000000 in
theorem falling_any (v : JbV) (ts : List Th) (B T n cap : Nat) (l : List Int) (sp : List Value) (w : World) (ht : Cells w v.T 4 Th.enc ts) (hok : ∀ t ∈ ts, t.Ok) (hTB : ∀ k, v.T.map (·.block) = some k → k ≠ B ∨ ts = []) (hin : InR ts.length l) (hn : l.length = n) (hm : n ≤ 20) (hB : Blk w B T (l.map (Value.int .i64) ++ sp)) :
    Calls Try.prog 115 #[JbV.val v ts, .slice (some ⟨B, 0, none⟩) n cap] w fun e w' => e = .returned (.tuple #[]) ∧ Dr.Bel [B] w w' ∧ Blk w' B T ((sortL (needC ts) l).map (Value.int .i64) ++ sp) := by
  have hb0 := ext_alloc w (.cells (JbV.enc v ts).toArray 108)
  have hP := Blk.new w 108 (JbV.enc v ts)
  have hBP : w.heap.size ∉ [B] := by have := hB.lt; simp; omega
  have hneed : ∀ x ∈ l, 0 ≤ (thAt ts x).need ∧ (thAt ts x).need ≤ 1000 := fun x hx => (hok _ (thAt_mem (hin x hx).1 (hin x hx).2)).need
  have C := Lib.hid (ranked_any 129 #[.pointer (some ⟨w.heap.size, 0, none⟩)] (fun x => -(thAt ts x).need) B T n cap l sp (w.alloc (.cells (JbV.enc v ts).toArray 108)) (enters_of Try.func129 (by kernel_rfl) rfl) hn hm (hB.ext hb0)
    (fun W x hx hW => (fall1_any x w.heap.size v ts W (hW.blk hP hBP) (by
        by_cases h0 : ts = []
        · rw [h0]; exact Cells.nil
        · exact Dr.cells_bel (ht.ext hb0) hW fun k hk => by have := (hTB k hk).resolve_right h0; simpa using this) (hin x hx) (hneed x hx)).mono (by rintro e w' ⟨rfl, rfl⟩; exact ⟨rfl, Below.refl _ _⟩))
    (fun x hx => by have := hneed x hx; omega))
  rw [show (fun a b => -(thAt ts a).need - -(thAt ts b).need) = needC ts from rfl] at C
  clear hB hneed hn ht hTB hin hok hP hBP
  generalize sortL (needC ts) l = S at *
  unfold JbV.val
  unfold JbV.enc at *
  go_enter Try.func115, Try.ntmps115
  go_wp2_with fail
  refine C.out.mono ?_; rintro e w1 ⟨rfl, hb1, hB1⟩
  go_wp2
  go_end0
  exact ⟨rfl, (Dr.Bel.of hb0).trans hb1, hB1⟩
theorem falling_nil (v : JbV) (ts : List Th) (w : World) :
    Calls Try.prog 115 #[JbV.val v ts, .slice none 0 0] w fun e w' => e = .returned (.tuple #[]) ∧ Below w.heap.size w w' := by
  have hb0 := ext_alloc w (.cells (JbV.enc v ts).toArray 108)
  have C := Lib.hid (ranked_nil 129 #[.pointer (some ⟨w.heap.size, 0, none⟩)] 0 (w.alloc (.cells (JbV.enc v ts).toArray 108)))
  unfold JbV.val
  unfold JbV.enc at *
  go_enter Try.func115, Try.ntmps115
  go_wp2_with fail
  refine C.out.mono ?_; rintro e w1 ⟨rfl, hb1⟩
  go_wp2
  go_end0
  exact ⟨rfl, ext_trans hb0 hb1⟩
theorem upto_get {n i : Nat} (h : i < n) : (upto n)[i]? = some (i : Int) := by simp [upto, h]
set_option maxHeartbeats 1000000 in
theorem numbers_any (n : Nat) (w : World) (hn : n ≤ 1000000) :
    Calls Try.prog 86 #[.int .i64 n] w fun e w' => ∃ cap, e = .returned (.slice (some ⟨w.heap.size, 0, none⟩) n cap) ∧ n ≤ cap ∧ cap ≤ 1000000 ∧ Blk w' w.heap.size 3 ((upto n).map (Value.int .i64)) ∧ Below w.heap.size w w' := by
  obtain ⟨i0, hi, hz0, hz1, hz2⟩ := info_parts info3
  have hmk : ∀ w, (Instr.makeSlice 35 (.int .i64 (n : Int)) (.int .i64 (n : Int))).run Try.prog w = .ok (.slice (some ⟨w.heap.size, 0, none⟩) n n) (w.alloc (.cells ((tab n fun _ => 0).map (Value.int .i64)).toArray 3)) := fun w => by
    have := run_mk (P := Try.prog) Try.underlying35 hi hz0 hz1 hz2 (n : Int) (by omega) (by omega) w
    simpa using this
  have Hmk := Lib.hid hmk
  clear hmk hi hz0 hz1 hz2
  have hb0 := ext_alloc w (.cells ((tab n fun _ => 0).map (Value.int .i64)).toArray 3)
  have hB0 : IArr (w.alloc (.cells ((tab n fun _ => 0).map (Value.int .i64)).toArray 3)) w.heap.size 3 (tab n fun _ => 0) := Blk.new w 3 _
  have Hup := Lib.hid (show tab n (fun i => if i < n then (i : Int) else 0) = upto n by
    unfold tab upto
    apply List.map_congr_left
    intro i hi
    rw [List.mem_range] at hi
    simp [hi])
  have hn0 : (0 : Int) ≤ n := by omega
  go_enter Try.func86, Try.ntmps86
  have hmk := Hmk.out
  go_upto_region 2 with fail
  clear hmk Hmk
  generalize w.alloc (.cells ((tab n fun _ => 0).map (Value.int .i64)).toArray 3) = W0 at *
  go_wp2
  go_loopw [4, 9] (fun _ t wr => ∃ k : Nat, t = .int .i64 k ∧ k ≤ n ∧ IArr wr w.heap.size 3 (tab n fun i => if i < k then (i : Int) else 0) ∧ Dr.Bel [w.heap.size] W0 wr) (fun _ t _ => n - (intOf t).toNat)
  case atStart => exact ⟨0, rfl, by omega, by simpa using hB0, Dr.Bel.refl _ _⟩
  case round =>
    obtain ⟨k, rfl, hk, hB, hb⟩ := hrel
    by_cases hlt : k < n
    · have hlt' : (k : Int) < (n : Int) := by omega
      have c0 := hB.cell (tab_get (fun i => if i < k then (i : Int) else 0) hlt)
      have f0 := hB.free k
      have hB1 := hB.set k (k : Int)
      rw [tab_set] at hB1
      have hup : upd (fun i => if i < k then (i : Int) else 0) k (k : Int) = fun i => if i < k + 1 then (i : Int) else 0 := by
        funext i
        unfold upd
        by_cases e : i = k
        · subst e; simp
        · rw [if_neg e]
          show (if i < k then (i : Int) else 0) = _
          by_cases h2 : i < k
          · rw [if_pos h2, if_pos (by omega)]
          · rw [if_neg h2, if_neg (by omega)]
      rw [hup] at hB1
      have HB1 := Lib.hid hB1
      have hb1 : Dr.Bel [w.heap.size] W0 (wr.setCell ⟨w.heap.size, k, none⟩ (.int .i64 k)) := hb.put (by simp) _
      clear hB1 hup hB hb
      go_wp2
      go_roundw
      case rel => exact ⟨k + 1, by go_num, by omega, HB1.out, hb1⟩
      case measure => simp [intOf]; omega
    · obtain rfl : n = k := by omega
      rw [Hup.out] at hB
      go_wp2
      go_ret
      have h1 := hb0.size
      exact ⟨_, rfl, Nat.le_refl _, hn, hB, hb0.trans (hb.old h1 (by simp))⟩
end Go.Proofs.Ytbpmfaibcibleaa

/- Walks: rigging: pull, choose, bears, end, most for one load. -/
import Derived.Test.YtilkoooahoecfaaGreatRmB
namespace Go.Proofs.YtilkoooahoecfaaGreat.Rg
open Go.RowKit Go.Bs Go.Pl Go.Sort Go.Rg
theorem choose_any (b : Bool) (x y : Int) (w : World) : Calls Tryz.prog 88 #[.bool b, .int .i64 x, .int .i64 y] w fun e w' => e = .returned (.int .i64 (if b = true then x else y)) ∧ w = w' := by
  cases b
  · go_enter Tryz.func88, Tryz.ntmps88
    go_wp2
    go_ret
    exact ⟨rfl, rfl⟩
  · go_enter Tryz.func88, Tryz.ntmps88
    go_wp2
    go_ret
    exact ⟨rfl, rfl⟩
/-- these cells lie at the beginning of a block -/
def LdB (w : World) (L : Nat) (cs : List Value) : Prop := w.rangeAt L 0 cs
theorem LdB.cell {w : World} {L i : Nat} {cs : List Value} {v : Value} (h : LdB w L cs) (hi : cs[i]? = some v) : w.cell? ⟨L, i, none⟩ = some v := by
  have := h i v hi
  rwa [Nat.zero_add] at this
theorem LdB.lt {w : World} {L : Nat} {cs : List Value} {v : Value} (h : LdB w L cs) (hi : cs[0]? = some v) : L < w.heap.size := cell_lt (h.cell hi)
theorem LdB.ext {w w' : World} {L : Nat} {cs : List Value} (h : LdB w L cs) (hb : Below w.heap.size w w') : LdB w' L cs := fun j v hv => cell_ext (h j v hv) hb
theorem LdB.drew {w : World} {L : Nat} {cs : List Value} (h : LdB w L cs) : LdB w.drew L cs := h.ext (ext_drew w)
theorem LdB.under {w w' : World} {L n : Nat} {cs : List Value} (h : LdB w L cs) (hb : Below n w w') (hL : L < n) : LdB w' L cs := fun j v hv => (hb.cell hL).trans (h j v hv)
set_option maxHeartbeats 1000000 in
theorem pull_any (p L cL : Nat) (n : Int) (w : World) (hn : 0 ≤ n ∧ n ≤ 1000000) (hL : LdB w L [.int .i64 (-1), .int .i64 0, .int .u8 2, .int .i64 0, .int .i64 n]) :
    Calls Tryz.prog 87 #[.agg #[.slice (some ⟨p, 0, none⟩) 1 1, .slice none 0 0, .int .i64 1000, .int .i64 1000, .int .i64 2000, .slice (some ⟨L, 0, none⟩) 1 cL], .int .i64 0] w fun e w' => e = .returned (.agg #[.int .i64 0, .int .i64 (2 * n)]) ∧ Below w.heap.size w w' := by
  have hB := Blk.new w 58 [.slice (some ⟨p, 0, none⟩) 1 1, .slice none 0 0, .int .i64 1000, .int .i64 1000, .int .i64 2000, .slice (some ⟨L, 0, none⟩) 1 cL]
  have hx := ext_alloc w (.cells #[.slice (some ⟨p, 0, none⟩) 1 1, .slice none 0 0, .int .i64 1000, .int .i64 1000, .int .i64 2000, .slice (some ⟨L, 0, none⟩) 1 cL] 58)
  have hs := Blk.lt hB
  have hO := Blk.new (w.alloc (.cells #[.slice (some ⟨p, 0, none⟩) 1 1, .slice none 0 0, .int .i64 1000, .int .i64 1000, .int .i64 2000, .slice (some ⟨L, 0, none⟩) 1 cL] 58)) 138 [.int .i64 0, .int .i64 0]
  have hx2 := ext_alloc (w.alloc (.cells #[.slice (some ⟨p, 0, none⟩) 1 1, .slice none 0 0, .int .i64 1000, .int .i64 1000, .int .i64 2000, .slice (some ⟨L, 0, none⟩) 1 cL] 58)) (.cells #[.int .i64 0, .int .i64 0] 138)
  have hL1 := (hL.ext hx).ext hx2
  have hB1 := Blk.ext hB hx2
  go_enter Tryz.func87, Tryz.ntmps87
  go_upto_region 1 with fail
  change Blk ((w.alloc (.cells #[.slice (some ⟨p, 0, none⟩) 1 1, .slice none 0 0, .int .i64 1000, .int .i64 1000, .int .i64 2000, .slice (some ⟨L, 0, none⟩) 1 cL] 58)).alloc (.cells #[.int .i64 0, .int .i64 0] 138)) _ _ _ at hB1
  have hsz : (w.alloc (.cells #[.slice (some ⟨p, 0, none⟩) 1 1, .slice none 0 0, .int .i64 1000, .int .i64 1000, .int .i64 2000, .slice (some ⟨L, 0, none⟩) 1 cL] 58)).heap.size = w.heap.size + 1 := by simp
  change Blk ((w.alloc (.cells #[.slice (some ⟨p, 0, none⟩) 1 1, .slice none 0 0, .int .i64 1000, .int .i64 1000, .int .i64 2000, .slice (some ⟨L, 0, none⟩) 1 cL] 58)).alloc (.cells #[.int .i64 0, .int .i64 0] 138)) (w.alloc (.cells #[.slice (some ⟨p, 0, none⟩) 1 1, .slice none 0 0, .int .i64 1000, .int .i64 1000, .int .i64 2000, .slice (some ⟨L, 0, none⟩) 1 cL] 58)).heap.size _ _ at hO
  rw [hsz] at hO
  have hxw := ext_trans hx hx2
  generalize ((w.alloc (.cells #[.slice (some ⟨p, 0, none⟩) 1 1, .slice none 0 0, .int .i64 1000, .int .i64 1000, .int .i64 2000, .slice (some ⟨L, 0, none⟩) 1 cL] 58)).alloc (.cells #[.int .i64 0, .int .i64 0] 138)) = W1 at *
  clear hB hx hx2 hL hs hsz
  have b5 : W1.cell? ⟨w.heap.size, 5, none⟩ = _ := hB1.cell (i := 5) rfl
  have l0 : W1.cell? ⟨L, 0, none⟩ = _ := hL1.cell (i := 0) rfl
  have l1 : W1.cell? ⟨L, 1, none⟩ = _ := hL1.cell (i := 1) rfl
  have l2 : W1.cell? ⟨L, 2, none⟩ = _ := hL1.cell (i := 2) rfl
  have l3 : W1.cell? ⟨L, 3, none⟩ = _ := hL1.cell (i := 3) rfl
  have l4 : W1.cell? ⟨L, 4, none⟩ = _ := hL1.cell (i := 4) rfl
  have hT := Blk.new W1 73 [.int .i64 (-1), .int .i64 0, .int .u8 2, .int .i64 0, .int .i64 n]
  have hx3 := ext_alloc W1 (.cells #[.int .i64 (-1), .int .i64 0, .int .u8 2, .int .i64 0, .int .i64 n] 73)
  go_upto_region 2 with fail
  change Blk (W1.alloc (.cells #[.int .i64 (-1), .int .i64 0, .int .u8 2, .int .i64 0, .int .i64 n] 73)) _ _ _ at hT
  have hB2 := hB1.ext hx3
  have hO2 := hO.ext hx3
  have hxw2 := ext_trans hxw hx3
  generalize W1.alloc (.cells #[.int .i64 (-1), .int .i64 0, .int .u8 2, .int .i64 0, .int .i64 n] 73) = W2 at *
  clear b5 l0 l1 l2 l3 l4 hB1 hO hL1 hx3 hxw
  refine Dr.wp_region_plan 13 [] (.q [0, 1, 2, 3, 4, 5, 6, 7, 8, 9, 10, 11, 12] .done) (by kernel_rfl) (by kernel_rfl) ?_
  have hB3 := hB2.drew
  have hO3 := hO2.drew
  have hT3 := hT.drew
  have hxw3 := hxw2.drew
  clear hB2 hO2 hT hxw2
  generalize World.drew W2 = V at *
  have q0 := Dr.cell0 (hT3.cell (i := 2) rfl)
  have q1 := Dr.cell0 (hT3.cell (i := 3) rfl)
  have q2 := Dr.cell0 (hT3.cell (i := 4) rfl)
  have q3 := Dr.cell0 (hB3.cell (i := 4) rfl)
  have q4 := Dr.cell0 (hT3.cell (i := 1) rfl)
  have w1 : wrap64 (n * 2000) = n * 2000 := by unfold wrap64; omega
  have w2 : wrap64 (n * 2000 + 999) = n * 2000 + 999 := by unfold wrap64; omega
  have w3 : (n * 2000 + 999).tdiv 1000 = 2 * n := by rw [Int.tdiv_eq_ediv_of_nonneg (by omega)]; omega
  have w4 : wrap64 (2 * n) = 2 * n := by unfold wrap64; omega
  with_reducible refine Dr.plan_q (l := [_, _, _, _, _, _, _, _, _, _, _, _, _]) (by with_unfolding_all exact rfl) (fun K hK => ?_)
  iterate 13 (go_big_quiet_step (fail))
  refine wpQuiet_nil (hK _ ?_); clear hK K
  clear q0 q1 q2 q3 q4
  have o0 : V.cell? ⟨w.heap.size + 1, 0, none⟩ = _ := hO3.cell (i := 0) rfl
  have o1 : V.cell? ⟨w.heap.size + 1, 1, none⟩ = _ := hO3.cell (i := 1) rfl
  have f0 := hO3.free 0
  have f1 := hO3.free 1
  refine Dr.plan_done (tl := [_]) rfl ?_
  go_wp2
  have hE : Blk _ (w.heap.size + 1) 138 [.int .i64 0, .int .i64 (2 * n)] := (hO3.set 0 (.int .i64 0)).set 1 (.int .i64 (2 * n))
  exact bodyPost_ret (results_cell_row rfl _ _ _ _ _ _ _ rfl hE Tryz.underlying138 rfl (by kernel_rfl)) rfl ⟨rfl, (hxw3.setCell (by simp) _).setCell (by simp) _⟩
set_option maxRecDepth 100000 in
set_option maxHeartbeats 1000000 in
theorem bears_any (f : Nat → Int) (A cA : Nat) (v : Int) (w : World) (hv : 0 ≤ v ∧ v ≤ 2000000) (h0 : f 0 = 216000) (h20 : f 20 = 0) (hA : w.cell? ⟨A, 0, none⟩ = some (.int .i64 v)) :
    Calls Tryz.prog 65 #[.agg (rwC f).toArray, .slice (some ⟨A, 0, none⟩) 1 cA] w fun e w' => e = .returned (.int .i64 (216000 * v)) ∧ Below w.heap.size w w' := by
  have hB : RwB (w.alloc (.cells (rwC f).toArray 78)) w.heap.size f := Blk.new w 78 _
  have hx := ext_alloc w (.cells (rwC f).toArray 78)
  have hA1 := cell_ext hA hx
  go_enter Tryz.func65, Tryz.ntmps65
  go_upto_region 1 with fail
  generalize w.alloc (.cells (rwC f).toArray 78) = W1 at *
  have r0 := hB.cell (show 0 < 21 by omega)
  have r20 := hB.cell (show 20 < 21 by omega)
  rw [h0] at r0
  rw [h20] at r20
  clear h0 h20 hA hB
  have w1 : wrap64 (216000 * v) = 216000 * v := by unfold wrap64; omega
  go_wp2
  go_loopw [5, 6, 7, 12] (fun x _ _ t wr => W1 = wr ∧ ((t = .int .i64 0 ∧ x = .int .i64 0) ∨ (t = .int .i64 1 ∧ x = .int .i64 (216000 * v)))) (fun _ _ _ t _ => 1 - (intOf t).toNat)
  case atStart => exact ⟨rfl, .inl ⟨rfl, rfl⟩⟩
  case round =>
    obtain ⟨rfl, ⟨rfl, rfl⟩ | ⟨rfl, rfl⟩⟩ := hrel
    · go_wp2
      go_roundw
      case rel => first | (simp; done) | exact ⟨trivial, .inr ⟨rfl, by simp⟩⟩ | trace_state
      case measure => simp [intOf]
    · go_wp2
      go_ret
      exact ⟨rfl, hx⟩
end Go.Proofs.YtilkoooahoecfaaGreat.Rg

/- Walk: Begin. -/
import Derived.Test.YtnjdlhhgnamigaaGreatLedD
namespace Go.Proofs.YtnjdlhhgnamigaaGreat
open Go.RowKit Go.Bs Go.Pu Go.Pl Go.Sort

def lzC : List Value := [.slice none 0 0, .slice none 0 0, .int .i64 0, .int .i64 0, .int .i64 0, .int .i64 0, .int .i64 0, .slice none 0 0]
theorem lz_at (w : World) : LedAt w (.agg #[.slice none 0 0, .slice none 0 0, .int .i64 0, .int .i64 0, .int .i64 0, .int .i64 0, .int .i64 0, .slice none 0 0]) Led.zero :=
  ⟨none, 0, 0, none, 0, 0, none, 0, 0, rfl, ⟨rfl, rfl, rfl, by omega, by omega, by omega, fun i x h => by simp [Led.zero] at h, fun i x h => by simp [Led.zero] at h, fun i x h => by simp [Led.zero] at h⟩⟩
theorem beginL_eq (l : List Int) (o : Int) : beginL l o = if decide (1 ≤ (l.length : Int) ∧ (l.length : Int) ≤ 10) && (l.all monB && monB o) then (if monB (o + isum l) then (⟨l, [], o, 0, o + isum l, 0, 0, []⟩, 0) else (Led.zero, 2)) else (Led.zero, 2) := by
  unfold beginL Led.total
  have h1 : decide (1 ≤ (l.length : Int) ∧ (l.length : Int) ≤ 10) = decide (1 ≤ l.length ∧ l.length ≤ 10) := by congr 1; rw [eq_iff_iff]; omega
  rw [h1]
  simp only [List.map_nil, isum, Int.add_zero]
  cases decide (1 ≤ l.length ∧ l.length ≤ 10) <;> cases l.all monB <;> cases monB o <;> cases monB (o + isum l) <;> simp

set_option maxRecDepth 100000 in
set_option maxHeartbeats 4000000 in
theorem Begin_any (wins : List Int) (A : Option Addr) (n c : Nat) (o : Int) (w : World) (hn : wins.length = n) (h9 : n ≤ 1000) (hA : Cells w A 1 encI wins) :
    Calls Tryz.prog 19 #[.slice A n c, .int .i64 o] w fun r w' => ∃ v, r = .returned (.tuple #[v, .int .i64 (beginL wins o).2]) ∧ LedAt w' v (beginL wins o).1 ∧ Below w.heap.size w w' := by
  rw [beginL_eq, hn]
  have hb0 := ext_alloc w (.cells #[.slice none 0 0, .slice none 0 0, .int .i64 0, .int .i64 0, .int .i64 0, .int .i64 0, .int .i64 0, .slice none 0 0] 34)
  have hY := Blk.new w 34 [.slice none 0 0, .slice none 0 0, .int .i64 0, .int .i64 0, .int .i64 0, .int .i64 0, .int .i64 0, .slice none 0 0]
  have hsz : (w.alloc (.cells #[.slice none 0 0, .slice none 0 0, .int .i64 0, .int .i64 0, .int .i64 0, .int .i64 0, .int .i64 0, .slice none 0 0] 34)).heap.size = w.heap.size + 1 := by simp
  have CC := Lib.hid (clone_int A n c wins _ hn (by omega) (hA.ext hb0))
  have C1 := Lib.hid (fun W => within_any n 1 10 W)
  have C2 := Lib.hid (fun W hW => all_int 44 #[] monB A n c wins W (enters_of Tryz.func44 (by kernel_rfl) rfl) hn (by omega) (hA.ext hW) (mon_ok wins W))
  have C3 := Lib.hid (fun W => money_any o W)
  have C4 := Lib.hid (fun W => money_any (o + isum wins) W)
  have Hn := Lib.hid hn
  generalize hb1 : decide (1 ≤ (n : Int) ∧ (n : Int) ≤ 10) = b1 at *
  have Hb1 := Lib.hid hb1
  clear hb1 hn
  generalize hb2 : wins.all monB = b2 at *
  generalize hb3 : monB o = b3 at *
  generalize hb4 : monB (o + isum wins) = b4 at *
  have Hb2 := Lib.hid hb2
  have Hb3 := Lib.hid hb3
  clear hb2 hb3 hb4
  go_enter Tryz.func19, Tryz.ntmps19
  go_upto_region 1 with fail
  change Blk (w.alloc (.cells #[.slice none 0 0, .slice none 0 0, .int .i64 0, .int .i64 0, .int .i64 0, .int .i64 0, .int .i64 0, .slice none 0 0] 34)) _ _ _ at hY
  generalize w.alloc (.cells #[.slice none 0 0, .slice none 0 0, .int .i64 0, .int .i64 0, .int .i64 0, .int .i64 0, .int .i64 0, .slice none 0 0] 34) = W0 at *
  go_wp2_with fail
  refine CC.out.mono ?_; rintro r W1 ⟨v, rfl, ho, hb1⟩
  obtain ⟨A', c', rfl, hc1, hc2, hcl⟩ := ho.cells encI_len
  rw [Hn.out] at hc1 ⊢
  have hbw1 := ext_trans hb0 hb1
  have hY1 := hY.ext hb1
  have hs1 := hb1.size
  have hAlt := fun q hq => ho.block_ge (by rw [Hn.out]) q hq
  clear hb0 hY hb1 CC ho
  have C2' := Lib.hid (fun W hW => C2.out W hW)
  go_upto_region 2 with fail
  have hL := Blk.new W1 34 [.slice A' n c', .slice none 0 0, .int .i64 o, .int .i64 0, .int .i64 0, .int .i64 0, .int .i64 0, .slice none 0 0]
  have hbw2 := ext_trans hbw1 (ext_alloc W1 (.cells #[.slice A' n c', .slice none 0 0, .int .i64 o, .int .i64 0, .int .i64 0, .int .i64 0, .int .i64 0, .slice none 0 0] 34))
  have hY2 := hY1.alloc (.cells #[.slice A' n c', .slice none 0 0, .int .i64 o, .int .i64 0, .int .i64 0, .int .i64 0, .int .i64 0, .slice none 0 0] 34)
  have hcl2 := hcl.ext (ext_alloc W1 (.cells #[.slice A' n c', .slice none 0 0, .int .i64 o, .int .i64 0, .int .i64 0, .int .i64 0, .int .i64 0, .slice none 0 0] 34))
  change Blk (W1.alloc (.cells #[.slice A' n c', .slice none 0 0, .int .i64 o, .int .i64 0, .int .i64 0, .int .i64 0, .int .i64 0, .slice none 0 0] 34)) _ _ _ at hL
  have hLs : w.heap.size < W1.heap.size := hY1.lt
  clear hY1 hcl hbw1 hs1
  generalize W1.alloc (.cells #[.slice A' n c', .slice none 0 0, .int .i64 o, .int .i64 0, .int .i64 0, .int .i64 0, .int .i64 0, .slice none 0 0] 34) = W2 at *
  generalize W1.heap.size = L at *
  clear W1
  go_wp2_with fail
  refine (C1.out _).mono ?_; rintro r w1 ⟨rfl, rfl⟩
  have hs2 := hbw2.size
  cases b1
  · have y0 : W2.cell? ⟨w.heap.size, 0, none⟩ = _ := hY2.cell (i := 0) rfl
    have y1 : W2.cell? ⟨w.heap.size, 1, none⟩ = _ := hY2.cell (i := 1) rfl
    have y2 : W2.cell? ⟨w.heap.size, 2, none⟩ = _ := hY2.cell (i := 2) rfl
    have y3 : W2.cell? ⟨w.heap.size, 3, none⟩ = _ := hY2.cell (i := 3) rfl
    have y4 : W2.cell? ⟨w.heap.size, 4, none⟩ = _ := hY2.cell (i := 4) rfl
    have y5 : W2.cell? ⟨w.heap.size, 5, none⟩ = _ := hY2.cell (i := 5) rfl
    have y6 : W2.cell? ⟨w.heap.size, 6, none⟩ = _ := hY2.cell (i := 6) rfl
    have y7 : W2.cell? ⟨w.heap.size, 7, none⟩ = _ := hY2.cell (i := 7) rfl
    have f0 := hY2.free 0
    have f1 := hY2.free 1
    have f2 := hY2.free 2
    have f3 := hY2.free 3
    have f4 := hY2.free 4
    have f5 := hY2.free 5
    have f6 := hY2.free 6
    have f7 := hY2.free 7
    go_wp2
    generalize hWf : World.setCell _ _ _ = Wf
    have hYf := hY2.put_eq [.slice none 0 0, .slice none 0 0, .int .i64 0, .int .i64 0, .int .i64 0, .int .i64 0, .int .i64 0, .slice none 0 0] hWf rfl
    have hbf : Dr.Bel [w.heap.size] W2 Wf := bel_put_eq [.slice none 0 0, .slice none 0 0, .int .i64 0, .int .i64 0, .int .i64 0, .int .i64 0, .int .i64 0, .slice none 0 0] hWf
    clear hWf y0 y1 y2 y3 y4 y5 y6 y7 f0 f1 f2 f3 f4 f5 f6 f7
    have o0 : Wf.cell? ⟨w.heap.size, 0, none⟩ = _ := hYf.cell (i := 0) rfl
    have o1 : Wf.cell? ⟨w.heap.size, 1, none⟩ = _ := hYf.cell (i := 1) rfl
    have o2 : Wf.cell? ⟨w.heap.size, 2, none⟩ = _ := hYf.cell (i := 2) rfl
    have o3 : Wf.cell? ⟨w.heap.size, 3, none⟩ = _ := hYf.cell (i := 3) rfl
    have o4 : Wf.cell? ⟨w.heap.size, 4, none⟩ = _ := hYf.cell (i := 4) rfl
    have o5 : Wf.cell? ⟨w.heap.size, 5, none⟩ = _ := hYf.cell (i := 5) rfl
    have o6 : Wf.cell? ⟨w.heap.size, 6, none⟩ = _ := hYf.cell (i := 6) rfl
    have o7 : Wf.cell? ⟨w.heap.size, 7, none⟩ = _ := hYf.cell (i := 7) rfl
    refine bodyPost_ret (v := .tuple #[.agg #[.slice none 0 0, .slice none 0 0, .int .i64 0, .int .i64 0, .int .i64 0, .int .i64 0, .int .i64 0, .slice none 0 0], .int .i64 2]) (by simp [results, Tryz.results19, go_sem, o0, o1, o2, o3, o4, o5, o6, o7]) rfl ?_
    have hsf := hbf.size
    exact ⟨_, rfl, lz_at _, hbw2.trans (hbf.old (by omega) (by simp))⟩
  go_wp2_with fail
  refine (C2.out _ hbw2).mono ?_; rintro r W3 ⟨rfl, hb3⟩
  have hbw3 := ext_trans hbw2 hb3
  have hY3 := hY2.ext hb3
  have hL3 := hL.ext hb3
  have hcl3 := hcl2.ext hb3
  have hs3 := hb3.size
  clear hY2 hL hcl2 hb3 hbw2
  cases b2
  · have y0 : W3.cell? ⟨w.heap.size, 0, none⟩ = _ := hY3.cell (i := 0) rfl
    have y1 : W3.cell? ⟨w.heap.size, 1, none⟩ = _ := hY3.cell (i := 1) rfl
    have y2 : W3.cell? ⟨w.heap.size, 2, none⟩ = _ := hY3.cell (i := 2) rfl
    have y3 : W3.cell? ⟨w.heap.size, 3, none⟩ = _ := hY3.cell (i := 3) rfl
    have y4 : W3.cell? ⟨w.heap.size, 4, none⟩ = _ := hY3.cell (i := 4) rfl
    have y5 : W3.cell? ⟨w.heap.size, 5, none⟩ = _ := hY3.cell (i := 5) rfl
    have y6 : W3.cell? ⟨w.heap.size, 6, none⟩ = _ := hY3.cell (i := 6) rfl
    have y7 : W3.cell? ⟨w.heap.size, 7, none⟩ = _ := hY3.cell (i := 7) rfl
    have f0 := hY3.free 0
    have f1 := hY3.free 1
    have f2 := hY3.free 2
    have f3 := hY3.free 3
    have f4 := hY3.free 4
    have f5 := hY3.free 5
    have f6 := hY3.free 6
    have f7 := hY3.free 7
    go_wp2
    generalize hWf : World.setCell _ _ _ = Wf
    have hYf := hY3.put_eq [.slice none 0 0, .slice none 0 0, .int .i64 0, .int .i64 0, .int .i64 0, .int .i64 0, .int .i64 0, .slice none 0 0] hWf rfl
    have hbf : Dr.Bel [w.heap.size] W3 Wf := bel_put_eq [.slice none 0 0, .slice none 0 0, .int .i64 0, .int .i64 0, .int .i64 0, .int .i64 0, .int .i64 0, .slice none 0 0] hWf
    clear hWf y0 y1 y2 y3 y4 y5 y6 y7 f0 f1 f2 f3 f4 f5 f6 f7
    have o0 : Wf.cell? ⟨w.heap.size, 0, none⟩ = _ := hYf.cell (i := 0) rfl
    have o1 : Wf.cell? ⟨w.heap.size, 1, none⟩ = _ := hYf.cell (i := 1) rfl
    have o2 : Wf.cell? ⟨w.heap.size, 2, none⟩ = _ := hYf.cell (i := 2) rfl
    have o3 : Wf.cell? ⟨w.heap.size, 3, none⟩ = _ := hYf.cell (i := 3) rfl
    have o4 : Wf.cell? ⟨w.heap.size, 4, none⟩ = _ := hYf.cell (i := 4) rfl
    have o5 : Wf.cell? ⟨w.heap.size, 5, none⟩ = _ := hYf.cell (i := 5) rfl
    have o6 : Wf.cell? ⟨w.heap.size, 6, none⟩ = _ := hYf.cell (i := 6) rfl
    have o7 : Wf.cell? ⟨w.heap.size, 7, none⟩ = _ := hYf.cell (i := 7) rfl
    refine bodyPost_ret (v := .tuple #[.agg #[.slice none 0 0, .slice none 0 0, .int .i64 0, .int .i64 0, .int .i64 0, .int .i64 0, .int .i64 0, .slice none 0 0], .int .i64 2]) (by simp [results, Tryz.results19, go_sem, o0, o1, o2, o3, o4, o5, o6, o7]) rfl ?_
    have hsf := hbf.size
    exact ⟨_, rfl, lz_at _, hbw3.trans (hbf.old (by omega) (by simp))⟩
  go_wp2_with fail
  refine (C3.out _).mono ?_; rintro r w1 ⟨rfl, rfl⟩
  cases b3
  · have y0 : W3.cell? ⟨w.heap.size, 0, none⟩ = _ := hY3.cell (i := 0) rfl
    have y1 : W3.cell? ⟨w.heap.size, 1, none⟩ = _ := hY3.cell (i := 1) rfl
    have y2 : W3.cell? ⟨w.heap.size, 2, none⟩ = _ := hY3.cell (i := 2) rfl
    have y3 : W3.cell? ⟨w.heap.size, 3, none⟩ = _ := hY3.cell (i := 3) rfl
    have y4 : W3.cell? ⟨w.heap.size, 4, none⟩ = _ := hY3.cell (i := 4) rfl
    have y5 : W3.cell? ⟨w.heap.size, 5, none⟩ = _ := hY3.cell (i := 5) rfl
    have y6 : W3.cell? ⟨w.heap.size, 6, none⟩ = _ := hY3.cell (i := 6) rfl
    have y7 : W3.cell? ⟨w.heap.size, 7, none⟩ = _ := hY3.cell (i := 7) rfl
    have f0 := hY3.free 0
    have f1 := hY3.free 1
    have f2 := hY3.free 2
    have f3 := hY3.free 3
    have f4 := hY3.free 4
    have f5 := hY3.free 5
    have f6 := hY3.free 6
    have f7 := hY3.free 7
    go_wp2
    generalize hWf : World.setCell _ _ _ = Wf
    have hYf := hY3.put_eq [.slice none 0 0, .slice none 0 0, .int .i64 0, .int .i64 0, .int .i64 0, .int .i64 0, .int .i64 0, .slice none 0 0] hWf rfl
    have hbf : Dr.Bel [w.heap.size] W3 Wf := bel_put_eq [.slice none 0 0, .slice none 0 0, .int .i64 0, .int .i64 0, .int .i64 0, .int .i64 0, .int .i64 0, .slice none 0 0] hWf
    clear hWf y0 y1 y2 y3 y4 y5 y6 y7 f0 f1 f2 f3 f4 f5 f6 f7
    have o0 : Wf.cell? ⟨w.heap.size, 0, none⟩ = _ := hYf.cell (i := 0) rfl
    have o1 : Wf.cell? ⟨w.heap.size, 1, none⟩ = _ := hYf.cell (i := 1) rfl
    have o2 : Wf.cell? ⟨w.heap.size, 2, none⟩ = _ := hYf.cell (i := 2) rfl
    have o3 : Wf.cell? ⟨w.heap.size, 3, none⟩ = _ := hYf.cell (i := 3) rfl
    have o4 : Wf.cell? ⟨w.heap.size, 4, none⟩ = _ := hYf.cell (i := 4) rfl
    have o5 : Wf.cell? ⟨w.heap.size, 5, none⟩ = _ := hYf.cell (i := 5) rfl
    have o6 : Wf.cell? ⟨w.heap.size, 6, none⟩ = _ := hYf.cell (i := 6) rfl
    have o7 : Wf.cell? ⟨w.heap.size, 7, none⟩ = _ := hYf.cell (i := 7) rfl
    refine bodyPost_ret (v := .tuple #[.agg #[.slice none 0 0, .slice none 0 0, .int .i64 0, .int .i64 0, .int .i64 0, .int .i64 0, .int .i64 0, .slice none 0 0], .int .i64 2]) (by simp [results, Tryz.results19, go_sem, o0, o1, o2, o3, o4, o5, o6, o7]) rfl ?_
    have hsf := hbf.size
    exact ⟨_, rfl, lz_at _, hbw3.trans (hbf.old (by omega) (by simp))⟩
  have hn10 : n ≤ 10 := by have := of_decide_eq_true Hb1.out; omega
  have hwin : ∀ x ∈ wins, 0 ≤ x ∧ x ≤ 1000000000000 := fun x hx => of_decide_eq_true (List.all_eq_true.1 Hb2.out x hx)
  have ho9 : 0 ≤ o ∧ o ≤ 1000000000000 := of_decide_eq_true Hb3.out
  have CT := Lib.hid (total_any wins [] A' n c' none 0 0 o 0 0 0 0 none 0 0 W3 Hn.out rfl (by omega) (by omega) hcl3 (fun i x h => by simp at h) ho9 (by omega) hwin (by simp))
  unfold ledV at CT
  rw [show o + 0 + isum wins + isum (([] : List Bag).map Bag.holds) = o + isum wins by simp [isum]] at CT
  generalize hsum : o + isum wins = sm at *
  have l0 : W3.cell? ⟨L, 0, none⟩ = _ := hL3.cell (i := 0) rfl
  have l1 : W3.cell? ⟨L, 1, none⟩ = _ := hL3.cell (i := 1) rfl
  have l2 : W3.cell? ⟨L, 2, none⟩ = _ := hL3.cell (i := 2) rfl
  have l3 : W3.cell? ⟨L, 3, none⟩ = _ := hL3.cell (i := 3) rfl
  have l4 : W3.cell? ⟨L, 4, none⟩ = _ := hL3.cell (i := 4) rfl
  have l5 : W3.cell? ⟨L, 5, none⟩ = _ := hL3.cell (i := 5) rfl
  have l6 : W3.cell? ⟨L, 6, none⟩ = _ := hL3.cell (i := 6) rfl
  have l7 : W3.cell? ⟨L, 7, none⟩ = _ := hL3.cell (i := 7) rfl
  go_wp2_with fail
  refine CT.out.mono ?_; rintro r W4 ⟨rfl, hb4⟩
  have hbw4 := ext_trans hbw3 hb4
  have hY4 := hY3.ext hb4
  have hL4 := hL3.ext hb4
  have hcl4 := hcl3.ext hb4
  clear l0 l1 l2 l3 l4 l5 l6 l7 hL3 hY3 hcl3 hb4 CT hbw3 C2' C2 C3
  have l4 : W4.cell? ⟨L, 4, none⟩ = _ := hL4.cell (i := 4) rfl
  have f4 := hL4.free 4
  go_upto_region 5 with fail
  have hL5 := hL4.set 4 (.int .i64 sm)
  simp only [List.set] at hL5
  have hY5 := hY4.other (p := ⟨L, 4, none⟩) (by simp; omega) (.int .i64 sm)
  have hb5 : Dr.Bel [L] W4 _ := (Dr.Bel.refl [L] W4).put (p := ⟨L, 4, none⟩) (by simp) (.int .i64 sm)
  have hcl5 := cells_bel hcl4 hb5 (fun q hq => by have := (hAlt q hq).2; simp; omega)
  have hbw5 : Below w.heap.size w _ := hbw4.setCell (p := ⟨L, 4, none⟩) (by simp; omega) (.int .i64 sm)
  clear l4 f4 hL4 hY4 hcl4 hbw4 hb5
  generalize W4.setCell ⟨L, 4, none⟩ (.int .i64 sm) = W5 at *
  have l4 : W5.cell? ⟨L, 4, none⟩ = _ := hL5.cell (i := 4) rfl
  have hs5 := hbw5.size
  go_wp2_with fail
  refine (C4.out _).mono ?_; rintro r w1 ⟨rfl, rfl⟩
  cases b4
  · have y0 : W5.cell? ⟨w.heap.size, 0, none⟩ = _ := hY5.cell (i := 0) rfl
    have y1 : W5.cell? ⟨w.heap.size, 1, none⟩ = _ := hY5.cell (i := 1) rfl
    have y2 : W5.cell? ⟨w.heap.size, 2, none⟩ = _ := hY5.cell (i := 2) rfl
    have y3 : W5.cell? ⟨w.heap.size, 3, none⟩ = _ := hY5.cell (i := 3) rfl
    have y4 : W5.cell? ⟨w.heap.size, 4, none⟩ = _ := hY5.cell (i := 4) rfl
    have y5 : W5.cell? ⟨w.heap.size, 5, none⟩ = _ := hY5.cell (i := 5) rfl
    have y6 : W5.cell? ⟨w.heap.size, 6, none⟩ = _ := hY5.cell (i := 6) rfl
    have y7 : W5.cell? ⟨w.heap.size, 7, none⟩ = _ := hY5.cell (i := 7) rfl
    have f0 := hY5.free 0
    have f1 := hY5.free 1
    have f2 := hY5.free 2
    have f3 := hY5.free 3
    have f4 := hY5.free 4
    have f5 := hY5.free 5
    have f6 := hY5.free 6
    have f7 := hY5.free 7
    go_wp2
    generalize hWf : World.setCell _ _ _ = Wf
    have hYf := hY5.put_eq [.slice none 0 0, .slice none 0 0, .int .i64 0, .int .i64 0, .int .i64 0, .int .i64 0, .int .i64 0, .slice none 0 0] hWf rfl
    have hbf : Dr.Bel [w.heap.size] W5 Wf := bel_put_eq [.slice none 0 0, .slice none 0 0, .int .i64 0, .int .i64 0, .int .i64 0, .int .i64 0, .int .i64 0, .slice none 0 0] hWf
    clear hWf y0 y1 y2 y3 y4 y5 y6 y7 f0 f1 f2 f3 f4 f5 f6 f7
    have o0 : Wf.cell? ⟨w.heap.size, 0, none⟩ = _ := hYf.cell (i := 0) rfl
    have o1 : Wf.cell? ⟨w.heap.size, 1, none⟩ = _ := hYf.cell (i := 1) rfl
    have o2 : Wf.cell? ⟨w.heap.size, 2, none⟩ = _ := hYf.cell (i := 2) rfl
    have o3 : Wf.cell? ⟨w.heap.size, 3, none⟩ = _ := hYf.cell (i := 3) rfl
    have o4 : Wf.cell? ⟨w.heap.size, 4, none⟩ = _ := hYf.cell (i := 4) rfl
    have o5 : Wf.cell? ⟨w.heap.size, 5, none⟩ = _ := hYf.cell (i := 5) rfl
    have o6 : Wf.cell? ⟨w.heap.size, 6, none⟩ = _ := hYf.cell (i := 6) rfl
    have o7 : Wf.cell? ⟨w.heap.size, 7, none⟩ = _ := hYf.cell (i := 7) rfl
    refine bodyPost_ret (v := .tuple #[.agg #[.slice none 0 0, .slice none 0 0, .int .i64 0, .int .i64 0, .int .i64 0, .int .i64 0, .int .i64 0, .slice none 0 0], .int .i64 2]) (by simp [results, Tryz.results19, go_sem, o0, o1, o2, o3, o4, o5, o6, o7]) rfl ?_
    have hsf := hbf.size
    exact ⟨_, rfl, lz_at _, hbw5.trans (hbf.old (by omega) (by simp))⟩
  · clear l4
    have y0 : W5.cell? ⟨w.heap.size, 0, none⟩ = _ := hY5.cell (i := 0) rfl
    have y1 : W5.cell? ⟨w.heap.size, 1, none⟩ = _ := hY5.cell (i := 1) rfl
    have y2 : W5.cell? ⟨w.heap.size, 2, none⟩ = _ := hY5.cell (i := 2) rfl
    have y3 : W5.cell? ⟨w.heap.size, 3, none⟩ = _ := hY5.cell (i := 3) rfl
    have y4 : W5.cell? ⟨w.heap.size, 4, none⟩ = _ := hY5.cell (i := 4) rfl
    have y5 : W5.cell? ⟨w.heap.size, 5, none⟩ = _ := hY5.cell (i := 5) rfl
    have y6 : W5.cell? ⟨w.heap.size, 6, none⟩ = _ := hY5.cell (i := 6) rfl
    have y7 : W5.cell? ⟨w.heap.size, 7, none⟩ = _ := hY5.cell (i := 7) rfl
    have f0 := hY5.free 0
    have f1 := hY5.free 1
    have f2 := hY5.free 2
    have f3 := hY5.free 3
    have f4 := hY5.free 4
    have f5 := hY5.free 5
    have f6 := hY5.free 6
    have f7 := hY5.free 7
    have l0 : W5.cell? ⟨L, 0, none⟩ = _ := hL5.cell (i := 0) rfl
    have l1 : W5.cell? ⟨L, 1, none⟩ = _ := hL5.cell (i := 1) rfl
    have l2 : W5.cell? ⟨L, 2, none⟩ = _ := hL5.cell (i := 2) rfl
    have l3 : W5.cell? ⟨L, 3, none⟩ = _ := hL5.cell (i := 3) rfl
    have l4 : W5.cell? ⟨L, 4, none⟩ = _ := hL5.cell (i := 4) rfl
    have l5 : W5.cell? ⟨L, 5, none⟩ = _ := hL5.cell (i := 5) rfl
    have l6 : W5.cell? ⟨L, 6, none⟩ = _ := hL5.cell (i := 6) rfl
    have l7 : W5.cell? ⟨L, 7, none⟩ = _ := hL5.cell (i := 7) rfl
    go_wp2
    generalize hWf : World.setCell _ _ _ = Wf
    have hYf := hY5.put_eq [.slice A' n c', .slice none 0 0, .int .i64 o, .int .i64 0, .int .i64 sm, .int .i64 0, .int .i64 0, .slice none 0 0] hWf rfl
    have hbf : Dr.Bel [w.heap.size] W5 Wf := bel_put_eq [.slice A' n c', .slice none 0 0, .int .i64 o, .int .i64 0, .int .i64 sm, .int .i64 0, .int .i64 0, .slice none 0 0] hWf
    clear hWf y0 y1 y2 y3 y4 y5 y6 y7 f0 f1 f2 f3 f4 f5 f6 f7
    have o0 : Wf.cell? ⟨w.heap.size, 0, none⟩ = _ := hYf.cell (i := 0) rfl
    have o1 : Wf.cell? ⟨w.heap.size, 1, none⟩ = _ := hYf.cell (i := 1) rfl
    have o2 : Wf.cell? ⟨w.heap.size, 2, none⟩ = _ := hYf.cell (i := 2) rfl
    have o3 : Wf.cell? ⟨w.heap.size, 3, none⟩ = _ := hYf.cell (i := 3) rfl
    have o4 : Wf.cell? ⟨w.heap.size, 4, none⟩ = _ := hYf.cell (i := 4) rfl
    have o5 : Wf.cell? ⟨w.heap.size, 5, none⟩ = _ := hYf.cell (i := 5) rfl
    have o6 : Wf.cell? ⟨w.heap.size, 6, none⟩ = _ := hYf.cell (i := 6) rfl
    have o7 : Wf.cell? ⟨w.heap.size, 7, none⟩ = _ := hYf.cell (i := 7) rfl
    refine bodyPost_ret (v := .tuple #[.agg #[.slice A' n c', .slice none 0 0, .int .i64 o, .int .i64 0, .int .i64 sm, .int .i64 0, .int .i64 0, .slice none 0 0], .int .i64 0]) (by simp [results, Tryz.results19, go_sem, o0, o1, o2, o3, o4, o5, o6, o7]) rfl ?_
    have hsf := hbf.size
    have hc9 := cells_bel hcl5 hbf (fun q hq => by have := (hAlt q hq).1; simp; omega)
    exact ⟨_, rfl, ⟨A', n, c', none, 0, 0, none, 0, 0, rfl, ⟨Hn.out, rfl, rfl, h9, by omega, by omega, hc9, fun i x h => by simp at h, fun i x h => by simp at h⟩⟩, hbw5.trans (hbf.old (by omega) (by simp))⟩
end Go.Proofs.YtnjdlhhgnamigaaGreat

/- Walk: is a show valid? -/
import Derived.Test.YtcnidhcdkbfpcaaPrgB
namespace Go.Proofs.Ytcnidhcdkbfpcaa
open Go.RowKit Go.Bs Go.Pg Go.Pl Go.Sort

set_option maxRecDepth 100000 in
set_option maxHeartbeats 4000000 in
theorem valid_any (s : Sh) (p : ShP) (w : World) (h : ShM w s p) :
    Calls Try.prog 44 #[shV s p] w fun e w' => e = .returned (.bool s.okB) ∧ Below w.heap.size w w' := by
  obtain ⟨m1, m2, m3, m4, m5⟩ := h.small
  have hb0 := ext_alloc w (.cells (shC s p).toArray 35)
  have hX := Blk.new w 35 (shC s p)
  have hs0 : (w.alloc (.cells (shC s p).toArray 35)).heap.size = w.heap.size + 1 := by simp
  have C1 := Lib.hid (fun W => within_any s.acts.length 1 8 W)
  have C3 := Lib.hid (fun W (hW : Below w.heap.size w W) => all_int 63 #[] #[] (fun n => btw n 0 2) p.R s.rest.length p.cR s.rest W (enters_of Try.func63 (by kernel_rfl) rfl) rfl (by omega) (h.rest.ext hW) (v2_ok s.rest W))
  have C6 := Lib.hid (fun W (hW : Below w.heap.size w W) => all_int 61 #[] #[] (fun n => btw n 0 30) p.I s.ins.length p.cI s.ins W (enters_of Try.func61 (by kernel_rfl) rfl) rfl (by omega) (h.ins.ext hW) (v1_ok s.ins W))
  have C7 := Lib.hid (fun W (hW : Below w.heap.size w W) => all_int 61 #[] #[] (fun n => btw n 0 30) p.O s.outs.length p.cO s.outs W (enters_of Try.func61 (by kernel_rfl) rfl) rfl (by omega) (h.outs.ext hW) (v1_ok s.outs W))
  have C8 := Lib.hid (fun W => within_any s.cover 0 60 W)
  have C9 := Lib.hid (fun W => within_any s.dull 0 10 W)
  have hall : (p.av.all fun x => s.staged x.a) = s.acts.all s.staged := by rw [← h.eq, List.all_map]; rfl
  have C11 := Lib.hid (fun W (hW : Below w.heap.size w W) => all_act 66 #[shV s p] #[] (fun x => s.staged x.a) p.A s.acts.length p.cA p.av W (enters_of Try.func66 (by kernel_rfl) rfl) h.len (by omega) (h.acts.ext hW) (fun W' x hx hW' =>
    staged_any s p x W' m2 m3 (by have := h.bits x.a (by rw [← h.eq]; exact List.mem_map_of_mem hx); exact this) ((h.casts x hx).ext (ext_trans hW hW'))))
  rw [hall] at C11
  have C12 := Lib.hid (fun W (hW : Below w.heap.size w W) (B O : Nat) (hX : W.cell? ⟨B, 0, none⟩ = some (.slice p.A s.acts.length p.cA)) (hO : W.cell? ⟨O, 0, none⟩ = some (.func (.func 64) #[] #[.pointer (some ⟨B, 0, none⟩)])) =>
    all_pr 68 #[] #[.pointer (some ⟨O, 0, none⟩)] (fun p => btw p.1 0 (s.acts.length - 1) && btw p.2 0 (s.acts.length - 1) && decide (p.1 ≠ p.2)) p.B s.before.length p.cB s.before W (enters_of Try.func68 (by kernel_rfl) rfl) rfl (by omega) (h.before.ext hW)
      (v4_ok B O p.A s.acts.length p.cA s.before W m1 hX hO))
  change Hid (∀ W, Below w.heap.size w W → ∀ B O : Nat, W.cell? ⟨B, 0, none⟩ = some (.slice p.A s.acts.length p.cA) → W.cell? ⟨O, 0, none⟩ = some (.func (.func 64) #[] #[.pointer (some ⟨B, 0, none⟩)]) → Calls Try.prog 67 #[.slice p.B s.before.length p.cB, .func (.func 68) #[] #[.pointer (some ⟨O, 0, none⟩)]] W fun e w' => e = .returned (.bool (s.before.all s.pairB)) ∧ Below W.heap.size W w') at C12
  unfold Sh.okB Sh.ok1 Sh.ok2
  unfold shV shC at *
  generalize btw s.acts.length 1 8 = b1 at *
  generalize (s.rest.all fun n => btw n 0 2) = b3 at *
  generalize (s.ins.all fun n => btw n 0 30) = b6 at *
  generalize (s.outs.all fun n => btw n 0 30) = b7 at *
  generalize btw s.cover 0 60 = b8 at *
  generalize btw s.dull 0 10 = b9 at *
  generalize s.acts.all s.staged = b11 at *
  generalize s.before.all s.pairB = b12 at *
  clear h hall
  generalize s.acts.length = nA at *
  generalize s.rest.length = nR at *
  generalize s.ins.length = nI at *
  generalize s.outs.length = nO at *
  generalize s.before.length = nB at *
  go_enter Try.func44, Try.ntmps44
  go_upto_region 2 with fail
  change Blk (w.alloc (.cells #[.slice p.A nA p.cA, .slice p.R nR p.cR, .slice p.I nI p.cI, .slice p.O nO p.cO, .int .i64 s.cover, .int .i64 s.dull, .slice p.B nB p.cB] 35)) _ _ _ at hX
  generalize w.alloc (.cells #[.slice p.A nA p.cA, .slice p.R nR p.cR, .slice p.I nI p.cI, .slice p.O nO p.cO, .int .i64 s.cover, .int .i64 s.dull, .slice p.B nB p.cB] 35) = W0 at *
  have x0 : W0.cell? ⟨w.heap.size, 0, none⟩ = _ := hX.cell rfl
  have x1 : W0.cell? ⟨w.heap.size, 1, none⟩ = _ := hX.cell rfl
  have x2 : W0.cell? ⟨w.heap.size, 2, none⟩ = _ := hX.cell rfl
  have x3 : W0.cell? ⟨w.heap.size, 3, none⟩ = _ := hX.cell rfl
  have x4 : W0.cell? ⟨w.heap.size, 4, none⟩ = _ := hX.cell rfl
  have x5 : W0.cell? ⟨w.heap.size, 5, none⟩ = _ := hX.cell rfl
  have x6 : W0.cell? ⟨w.heap.size, 6, none⟩ = _ := hX.cell rfl
  go_wp2_with fail
  refine (C1.out _).mono ?_; rintro e w1 ⟨rfl, rfl⟩
  cases b1
  · go_wp2
    go_ret
    exact ⟨rfl, hb0⟩
  by_cases d2 : nR ≤ 16
  case neg =>
    go_wp2
    go_ret
    exact ⟨ret_congr (bool_congr (by simp)), hb0⟩
  go_wp2_with fail
  refine (C3.out _ hb0).mono ?_; rintro e W1 ⟨rfl, hb1⟩
  have hX1 := hX.ext hb1
  have hw1 := hb0.trans (hb1.mono hb0.size)
  clear x0 x1 x2 x3 x4 x5 x6 hX
  have x2 : W1.cell? ⟨w.heap.size, 2, none⟩ = _ := hX1.cell rfl
  have x3 : W1.cell? ⟨w.heap.size, 3, none⟩ = _ := hX1.cell rfl
  cases b3
  · go_wp2
    go_ret
    exact ⟨ret_congr (bool_congr (by simp)), hw1⟩
  by_cases d4 : nI ≤ 10
  case neg =>
    go_wp2
    go_ret
    exact ⟨ret_congr (bool_congr (by simp)), hw1⟩
  by_cases d5 : nO = nI
  case neg =>
    have d5' : ((nO : Int) == nI) = false := by simp; omega
    go_wp2
    go_ret
    exact ⟨ret_congr (bool_congr (by simp [d5])), hw1⟩
  subst d5
  go_wp2_with fail
  refine (C6.out _ hw1).mono ?_; rintro e W2 ⟨rfl, hb2⟩
  have hX2 := hX1.ext hb2
  have hw2 := hw1.trans (hb2.mono hw1.size)
  clear x2 x3 hX1
  have x3 : W2.cell? ⟨w.heap.size, 3, none⟩ = _ := hX2.cell rfl
  have x4 : W2.cell? ⟨w.heap.size, 4, none⟩ = _ := hX2.cell rfl
  have x5 : W2.cell? ⟨w.heap.size, 5, none⟩ = _ := hX2.cell rfl
  have x6 : W2.cell? ⟨w.heap.size, 6, none⟩ = _ := hX2.cell rfl
  cases b6
  · go_wp2
    go_ret
    exact ⟨ret_congr (bool_congr (by simp)), hw2⟩
  go_wp2_with fail
  refine (C7.out _ hw2).mono ?_; rintro e W3 ⟨rfl, hb3⟩
  have hX3 := hX2.ext hb3
  have hw3 := hw2.trans (hb3.mono hw2.size)
  clear x3 x4 x5 x6 hX2
  cases b7
  · go_wp2
    go_ret
    exact ⟨ret_congr (bool_congr (by simp)), hw3⟩
  have x4 : W3.cell? ⟨w.heap.size, 4, none⟩ = _ := hX3.cell rfl
  have x5 : W3.cell? ⟨w.heap.size, 5, none⟩ = _ := hX3.cell rfl
  have x6 : W3.cell? ⟨w.heap.size, 6, none⟩ = _ := hX3.cell rfl
  go_wp2_with fail
  refine (C8.out _).mono ?_; rintro e w1 ⟨rfl, rfl⟩
  cases b8
  · go_wp2
    go_ret
    exact ⟨ret_congr (bool_congr (by simp)), hw3⟩
  go_wp2_with fail
  refine (C9.out _).mono ?_; rintro e w1 ⟨rfl, rfl⟩
  cases b9
  · go_wp2
    go_ret
    exact ⟨ret_congr (bool_congr (by simp)), hw3⟩
  by_cases d10 : nB ≤ 20
  case neg =>
    go_wp2
    go_ret
    exact ⟨ret_congr (bool_congr (by simp)), hw3⟩
  have hb4 := ext_alloc W3 (.cells #[.func (.func 64) #[] #[.pointer (some ⟨w.heap.size, 0, none⟩)]] 103)
  have hO := Blk.new W3 103 [.func (.func 64) #[] #[.pointer (some ⟨w.heap.size, 0, none⟩)]]
  go_upto_region 7 with fail
  change Blk (W3.alloc (.cells #[.func (.func 64) #[] #[.pointer (some ⟨w.heap.size, 0, none⟩)]] 103)) _ _ _ at hO
  generalize W3.alloc (.cells #[.func (.func 64) #[] #[.pointer (some ⟨w.heap.size, 0, none⟩)]] 103) = W4 at *
  have hX4 := hX3.ext hb4
  have hw4 := hw3.trans (hb4.mono hw3.size)
  clear x4 x5 x6 hX3
  have x0 : W4.cell? ⟨w.heap.size, 0, none⟩ = _ := hX4.cell rfl
  have x1 : W4.cell? ⟨w.heap.size, 1, none⟩ = _ := hX4.cell rfl
  have x2 : W4.cell? ⟨w.heap.size, 2, none⟩ = _ := hX4.cell rfl
  have x3 : W4.cell? ⟨w.heap.size, 3, none⟩ = _ := hX4.cell rfl
  have x4 : W4.cell? ⟨w.heap.size, 4, none⟩ = _ := hX4.cell rfl
  have x5 : W4.cell? ⟨w.heap.size, 5, none⟩ = _ := hX4.cell rfl
  have x6 : W4.cell? ⟨w.heap.size, 6, none⟩ = _ := hX4.cell rfl
  go_wp2_with fail
  refine (C11.out _ hw4).mono ?_; rintro e W5 ⟨rfl, hb5⟩
  have hX5 := hX4.ext hb5
  have hO5 := hO.ext hb5
  have hw5 := hw4.trans (hb5.mono hw4.size)
  clear x0 x1 x2 x3 x4 x5 x6 hX4
  have x6 : W5.cell? ⟨w.heap.size, 6, none⟩ = _ := hX5.cell rfl
  cases b11
  · go_wp2
    go_ret
    exact ⟨ret_congr (bool_congr (by simp)), hw5⟩
  go_wp2_with fail
  refine (C12.out _ hw5 w.heap.size W3.heap.size (hX5.cell rfl) (hO5.cell rfl)).mono ?_; rintro e W6 ⟨rfl, hb6⟩
  go_wp2
  go_ret
  exact ⟨ret_congr (bool_congr (by simp)), hw5.trans (hb6.mono hw5.size)⟩
end Go.Proofs.Ytcnidhcdkbfpcaa

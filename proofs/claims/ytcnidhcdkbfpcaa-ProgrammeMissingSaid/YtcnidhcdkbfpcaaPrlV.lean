/- Walk: shows (the law's comparison), of two shows of one content. -/
import Derived.Test.YtcnidhcdkbfpcaaPrlU
import Derived.Deep.CutRange
namespace Go.Proofs.Ytcnidhcdkbfpcaa
open Go.RowKit Go.Bs Go.Pg Go.Pl Go.Sort
theorem szP3 : ∀ w, (sizeOf 3).run Try.prog w = .ok 1 w := fun w => by kernel_rfl
theorem eqP0 (d : Nat) (a b c e : Int) (w : World) : (Op.equalIn (d + 1 + 1) 84 (.agg #[.int .i64 a, .int .i64 b]) (.agg #[.int .i64 c, .int .i64 e])).run Try.prog w = .ok (a == c && b == e) w := by
  have h1 : ∀ x y w, (Op.equalIn (d + 1) 3 (.int .i64 x) (.int .i64 y)).run Try.prog w = .ok (x == y) w := fun x y w => run_equalIn_int w d 3 .i64 .i64 x y Try.underlying3
  have p0 : ∀ a b w, (part 3 #[.int .i64 a, .int .i64 b] 0).run Try.prog w = .ok (.int .i64 a) w := fun a b w => by kernel_rfl
  have p1 : ∀ a b w, (part 3 #[.int .i64 a, .int .i64 b] 1).run Try.prog w = .ok (.int .i64 b) w := fun a b w => by kernel_rfl
  unfold Op.equalIn
  simp only [Sem.run_bind, run_underlying Try.underlying84, Result.andThen_ok, szP3]
  cases h : (a == c) <;> cases h' : (b == e) <;> simp [Std.Legacy.Range.forIn_eq_forIn_range', List.range', p0, p1, h1, h, h', Result.andThen]
theorem eqP (a b c e : Int) (w : World) : (Op.equalIn 10000 84 (.agg #[.int .i64 a, .int .i64 b]) (.agg #[.int .i64 c, .int .i64 e])).run Try.prog w = .ok (a == c && b == e) w := eqP0 9998 a b c e w
attribute [local go_sem] eqP
theorem ints_same {A B : Option Addr} {c d : Nat} {l : List Int} {W : World} (hl : l.length ≤ 1000) (hA : Cells W A 1 encI l) (hB : Cells W B 1 encI l) : Calls Try.prog 20 #[.slice A l.length c, .slice B l.length d] W fun e w' => e = .returned (.bool true) ∧ Below W.heap.size W w' := by
  have := ints_any A B l.length l.length c d l l W rfl rfl (by omega) (by omega) hA hB
  simpa using this
set_option maxRecDepth 100000 in
set_option maxHeartbeats 10000000 in
theorem shows_any (s : Sh) (p q : ShP) (w : World) (h : ShM w s p) (h2 : ShM w s q) :
    Calls Try.prog 37 #[shV s p, shV s q] w fun e w' => e = .returned (.bool true) ∧ Below w.heap.size w w' := by
  obtain ⟨m1, m2, m3, m4, m5⟩ := h.small
  have hb0 : Below w.heap.size w ((w.alloc (.cells (shC s p).toArray 35)).alloc (.cells (shC s q).toArray 26)) := ((Below.refl _ _).alloc (Nat.le_refl _) _).alloc (by simp) _
  have hS : Blk ((w.alloc (.cells (shC s p).toArray 35)).alloc (.cells (shC s q).toArray 26)) w.heap.size 35 (shC s p) := (Blk.new w 35 (shC s p)).alloc _
  have hT : Blk ((w.alloc (.cells (shC s p).toArray 35)).alloc (.cells (shC s q).toArray 26)) (w.heap.size + 1) 26 (shC s q) := by
    have := Blk.new (w.alloc (.cells (shC s p).toArray 35)) 26 (shC s q)
    simpa using this
  have Hp := Lib.hid (fun W (hW : Below w.heap.size w W) => h.ext hW)
  have Hq := Lib.hid (fun W (hW : Below w.heap.size w W) => h2.ext hW)
  clear h h2
  unfold shV at *
  unfold shC at *
  go_enter Try.func37, Try.ntmps37
  go_upto_region 1 with fail
  change Below w.heap.size w ((w.alloc (.cells #[.slice p.A s.acts.length p.cA, .slice p.R s.rest.length p.cR, .slice p.I s.ins.length p.cI, .slice p.O s.outs.length p.cO, .int .i64 s.cover, .int .i64 s.dull, .slice p.B s.before.length p.cB] 35)).alloc (.cells #[.slice q.A s.acts.length q.cA, .slice q.R s.rest.length q.cR, .slice q.I s.ins.length q.cI, .slice q.O s.outs.length q.cO, .int .i64 s.cover, .int .i64 s.dull, .slice q.B s.before.length q.cB] 26)) at hb0
  change Blk ((w.alloc (.cells #[.slice p.A s.acts.length p.cA, .slice p.R s.rest.length p.cR, .slice p.I s.ins.length p.cI, .slice p.O s.outs.length p.cO, .int .i64 s.cover, .int .i64 s.dull, .slice p.B s.before.length p.cB] 35)).alloc (.cells #[.slice q.A s.acts.length q.cA, .slice q.R s.rest.length q.cR, .slice q.I s.ins.length q.cI, .slice q.O s.outs.length q.cO, .int .i64 s.cover, .int .i64 s.dull, .slice q.B s.before.length q.cB] 26)) _ _ _ at hS
  change Blk ((w.alloc (.cells #[.slice p.A s.acts.length p.cA, .slice p.R s.rest.length p.cR, .slice p.I s.ins.length p.cI, .slice p.O s.outs.length p.cO, .int .i64 s.cover, .int .i64 s.dull, .slice p.B s.before.length p.cB] 35)).alloc (.cells #[.slice q.A s.acts.length q.cA, .slice q.R s.rest.length q.cR, .slice q.I s.ins.length q.cI, .slice q.O s.outs.length q.cO, .int .i64 s.cover, .int .i64 s.dull, .slice q.B s.before.length q.cB] 26)) _ _ _ at hT
  generalize ((w.alloc (.cells #[.slice p.A s.acts.length p.cA, .slice p.R s.rest.length p.cR, .slice p.I s.ins.length p.cI, .slice p.O s.outs.length p.cO, .int .i64 s.cover, .int .i64 s.dull, .slice p.B s.before.length p.cB] 35)).alloc (.cells #[.slice q.A s.acts.length q.cA, .slice q.R s.rest.length q.cR, .slice q.I s.ins.length q.cI, .slice q.O s.outs.length q.cO, .int .i64 s.cover, .int .i64 s.dull, .slice q.B s.before.length q.cB] 26)) = W0 at *
  have x0 : W0.cell? ⟨w.heap.size, 0, none⟩ = _ := hS.cell (i := 0) rfl
  have x1 : W0.cell? ⟨w.heap.size, 1, none⟩ = _ := hS.cell (i := 1) rfl
  have x2 : W0.cell? ⟨w.heap.size, 2, none⟩ = _ := hS.cell (i := 2) rfl
  have x3 : W0.cell? ⟨w.heap.size, 3, none⟩ = _ := hS.cell (i := 3) rfl
  have x4 : W0.cell? ⟨w.heap.size, 4, none⟩ = _ := hS.cell (i := 4) rfl
  have x5 : W0.cell? ⟨w.heap.size, 5, none⟩ = _ := hS.cell (i := 5) rfl
  have x6 : W0.cell? ⟨w.heap.size, 6, none⟩ = _ := hS.cell (i := 6) rfl
  have y0 : W0.cell? ⟨w.heap.size + 1, 0, none⟩ = _ := hT.cell (i := 0) rfl
  have y1 : W0.cell? ⟨w.heap.size + 1, 1, none⟩ = _ := hT.cell (i := 1) rfl
  have y2 : W0.cell? ⟨w.heap.size + 1, 2, none⟩ = _ := hT.cell (i := 2) rfl
  have y3 : W0.cell? ⟨w.heap.size + 1, 3, none⟩ = _ := hT.cell (i := 3) rfl
  have y4 : W0.cell? ⟨w.heap.size + 1, 4, none⟩ = _ := hT.cell (i := 4) rfl
  have y5 : W0.cell? ⟨w.heap.size + 1, 5, none⟩ = _ := hT.cell (i := 5) rfl
  have y6 : W0.cell? ⟨w.heap.size + 1, 6, none⟩ = _ := hT.cell (i := 6) rfl
  have C1 := Lib.hid (ints_same (c := p.cR) (d := q.cR) m2 (Hp.out W0 hb0).rest (Hq.out W0 hb0).rest)
  go_wp2_with fail
  refine C1.out.mono ?_; rintro e W1 ⟨rfl, hb1⟩
  have hbw1 := ext_trans hb0 hb1
  have hS1 := hS.ext hb1
  have hT1 := hT.ext hb1
  clear hb0 hS hT hb1 C1 x0 x1 x2 x3 x4 x5 x6 y0 y1 y2 y3 y4 y5 y6
  have x0 : W1.cell? ⟨w.heap.size, 0, none⟩ = _ := hS1.cell (i := 0) rfl
  have x1 : W1.cell? ⟨w.heap.size, 1, none⟩ = _ := hS1.cell (i := 1) rfl
  have x2 : W1.cell? ⟨w.heap.size, 2, none⟩ = _ := hS1.cell (i := 2) rfl
  have x3 : W1.cell? ⟨w.heap.size, 3, none⟩ = _ := hS1.cell (i := 3) rfl
  have x4 : W1.cell? ⟨w.heap.size, 4, none⟩ = _ := hS1.cell (i := 4) rfl
  have x5 : W1.cell? ⟨w.heap.size, 5, none⟩ = _ := hS1.cell (i := 5) rfl
  have x6 : W1.cell? ⟨w.heap.size, 6, none⟩ = _ := hS1.cell (i := 6) rfl
  have y0 : W1.cell? ⟨w.heap.size + 1, 0, none⟩ = _ := hT1.cell (i := 0) rfl
  have y1 : W1.cell? ⟨w.heap.size + 1, 1, none⟩ = _ := hT1.cell (i := 1) rfl
  have y2 : W1.cell? ⟨w.heap.size + 1, 2, none⟩ = _ := hT1.cell (i := 2) rfl
  have y3 : W1.cell? ⟨w.heap.size + 1, 3, none⟩ = _ := hT1.cell (i := 3) rfl
  have y4 : W1.cell? ⟨w.heap.size + 1, 4, none⟩ = _ := hT1.cell (i := 4) rfl
  have y5 : W1.cell? ⟨w.heap.size + 1, 5, none⟩ = _ := hT1.cell (i := 5) rfl
  have y6 : W1.cell? ⟨w.heap.size + 1, 6, none⟩ = _ := hT1.cell (i := 6) rfl
  have C2 := Lib.hid (ints_same (c := p.cI) (d := q.cI) m3 (Hp.out W1 hbw1).ins (Hq.out W1 hbw1).ins)
  go_wp2_with fail
  refine C2.out.mono ?_; rintro e W2 ⟨rfl, hb2⟩
  have hbw2 := ext_trans hbw1 hb2
  have hS2 := hS1.ext hb2
  have hT2 := hT1.ext hb2
  clear hbw1 hS1 hT1 hb2 C2 x0 x1 x2 x3 x4 x5 x6 y0 y1 y2 y3 y4 y5 y6
  have x0 : W2.cell? ⟨w.heap.size, 0, none⟩ = _ := hS2.cell (i := 0) rfl
  have x1 : W2.cell? ⟨w.heap.size, 1, none⟩ = _ := hS2.cell (i := 1) rfl
  have x2 : W2.cell? ⟨w.heap.size, 2, none⟩ = _ := hS2.cell (i := 2) rfl
  have x3 : W2.cell? ⟨w.heap.size, 3, none⟩ = _ := hS2.cell (i := 3) rfl
  have x4 : W2.cell? ⟨w.heap.size, 4, none⟩ = _ := hS2.cell (i := 4) rfl
  have x5 : W2.cell? ⟨w.heap.size, 5, none⟩ = _ := hS2.cell (i := 5) rfl
  have x6 : W2.cell? ⟨w.heap.size, 6, none⟩ = _ := hS2.cell (i := 6) rfl
  have y0 : W2.cell? ⟨w.heap.size + 1, 0, none⟩ = _ := hT2.cell (i := 0) rfl
  have y1 : W2.cell? ⟨w.heap.size + 1, 1, none⟩ = _ := hT2.cell (i := 1) rfl
  have y2 : W2.cell? ⟨w.heap.size + 1, 2, none⟩ = _ := hT2.cell (i := 2) rfl
  have y3 : W2.cell? ⟨w.heap.size + 1, 3, none⟩ = _ := hT2.cell (i := 3) rfl
  have y4 : W2.cell? ⟨w.heap.size + 1, 4, none⟩ = _ := hT2.cell (i := 4) rfl
  have y5 : W2.cell? ⟨w.heap.size + 1, 5, none⟩ = _ := hT2.cell (i := 5) rfl
  have y6 : W2.cell? ⟨w.heap.size + 1, 6, none⟩ = _ := hT2.cell (i := 6) rfl
  have C3 := Lib.hid (ints_same (c := p.cO) (d := q.cO) m4 (Hp.out W2 hbw2).outs (Hq.out W2 hbw2).outs)
  go_wp2_with fail
  refine C3.out.mono ?_; rintro e W3 ⟨rfl, hb3⟩
  have hbw := ext_trans hbw2 hb3
  have hS := hS2.ext hb3
  have hT := hT2.ext hb3
  clear hbw2 hS2 hT2 hb3 C3 x0 x1 x2 x3 x4 x5 x6 y0 y1 y2 y3 y4 y5 y6
  have x0 : W3.cell? ⟨w.heap.size, 0, none⟩ = _ := hS.cell (i := 0) rfl
  have x1 : W3.cell? ⟨w.heap.size, 1, none⟩ = _ := hS.cell (i := 1) rfl
  have x2 : W3.cell? ⟨w.heap.size, 2, none⟩ = _ := hS.cell (i := 2) rfl
  have x3 : W3.cell? ⟨w.heap.size, 3, none⟩ = _ := hS.cell (i := 3) rfl
  have x4 : W3.cell? ⟨w.heap.size, 4, none⟩ = _ := hS.cell (i := 4) rfl
  have x5 : W3.cell? ⟨w.heap.size, 5, none⟩ = _ := hS.cell (i := 5) rfl
  have x6 : W3.cell? ⟨w.heap.size, 6, none⟩ = _ := hS.cell (i := 6) rfl
  have y0 : W3.cell? ⟨w.heap.size + 1, 0, none⟩ = _ := hT.cell (i := 0) rfl
  have y1 : W3.cell? ⟨w.heap.size + 1, 1, none⟩ = _ := hT.cell (i := 1) rfl
  have y2 : W3.cell? ⟨w.heap.size + 1, 2, none⟩ = _ := hT.cell (i := 2) rfl
  have y3 : W3.cell? ⟨w.heap.size + 1, 3, none⟩ = _ := hT.cell (i := 3) rfl
  have y4 : W3.cell? ⟨w.heap.size + 1, 4, none⟩ = _ := hT.cell (i := 4) rfl
  have y5 : W3.cell? ⟨w.heap.size + 1, 5, none⟩ = _ := hT.cell (i := 5) rfl
  have y6 : W3.cell? ⟨w.heap.size + 1, 6, none⟩ = _ := hT.cell (i := 6) rfl
  have Hb3 := Lib.hid (fun W (hW : Below W3.heap.size W3 W) => And.intro (ext_trans hbw hW) (And.intro (hS.ext hW) (hT.ext hW)))
  go_upto_block 0 with fail
  clear x0 x1 x2 x3 x4 x5 x6 y0 y1 y2 y3 y4 y5 y6 hbw hS hT
  go_wp2
  go_loopw [5] (fun t wr => ∃ i : Nat, t = .int .i64 i ∧ i ≤ s.acts.length ∧ Below W3.heap.size W3 wr) (fun t _ => s.acts.length - (intOf t).toNat)
  case atStart => exact ⟨0, rfl, by omega, Below.refl _ _⟩
  case round =>
    obtain ⟨i, rfl, hi, hbr⟩ := hrel
    obtain ⟨hbw, hS, hT⟩ := Hb3.out wr hbr
    have x0 : wr.cell? ⟨w.heap.size, 0, none⟩ = some (.slice p.A s.acts.length p.cA) := hS.cell (i := 0) rfl
    by_cases hlt : i < s.acts.length
    · have hlt' : (i : Int) < (s.acts.length : Int) := by omega
      have hi0 : (0 : Int) ≤ (i : Int) := by omega
      obtain ⟨bA, oA, Ci, ci, hA, -, a0, a1, a2, a3, a4, hcc⟩ := (Hp.out wr hbw).at hlt
      obtain ⟨bB, oB, Di, di, hB, -, b0, b1, b2, b3, b4, hdd⟩ := (Hq.out wr hbw).at hlt
      have hbit := ((Hp.out wr hbw).bit hlt).2.1
      rw [hA] at x0
      have y0 : wr.cell? ⟨w.heap.size + 1, 0, none⟩ = some (.slice q.A s.acts.length q.cA) := hT.cell (i := 0) rfl
      rw [hB] at y0
      have Hcc := Lib.hid hcc
      have Hdd := Lib.hid hdd
      have hsz := hbr.size
      clear hcc hdd hA hB
      go_upto_region 6 with fail
      go_cut [6, 7] from 64 to 133 (fun u v W => ∃ X Y, u = .pointer (some ⟨X, 0, none⟩) ∧ v = .pointer (some ⟨Y, 0, none⟩) ∧ Below wr.heap.size wr W ∧ Blk W X 82 (AcV.enc ⟨s.act i, Ci, ci⟩) ∧ Blk W Y 50 (AcV.enc ⟨s.act i, Di, di⟩))
      case first =>
        refine Dr.wp_region_plan 13 [wr.heap.size, wr.heap.size + 1] (.q [0, 1, 2, 3, 4, 5, 6, 7, 8, 9] (.e2 10 (.e1 11 (.e1 12 .done)) 11 (.e1 10 (.e1 12 .done)))) (by kernel_rfl) (by kernel_rfl) ?_
        have hbrd := ext_drew wr
        have hWs : wr.drew.heap.size = wr.heap.size := rfl
        have lt : ∀ {x : Addr} {v : Value}, wr.cell? x = some v → wr.drew.cell? x = some v ∧ x.block ∉ [wr.heap.size, wr.heap.size + 1] := fun {x v} hx => by
          have := block_lt_of_cell hx
          exact ⟨hx, by simp; omega⟩
        have q0 := Dr.cls_cell (M := [wr.heap.size, wr.heap.size + 1]) (lt x0).1 (lt x0).2
        have q1 := Dr.cls_cell (M := [wr.heap.size, wr.heap.size + 1]) (lt y0).1 (lt y0).2
        have q2 := Dr.cls_cell (M := [wr.heap.size, wr.heap.size + 1]) (lt a0).1 (lt a0).2
        have q3 := Dr.cls_cell (M := [wr.heap.size, wr.heap.size + 1]) (lt a1).1 (lt a1).2
        have q4 := Dr.cls_cell (M := [wr.heap.size, wr.heap.size + 1]) (lt a2).1 (lt a2).2
        have q5 := Dr.cls_cell (M := [wr.heap.size, wr.heap.size + 1]) (lt a3).1 (lt a3).2
        have q6 := Dr.cls_cell (M := [wr.heap.size, wr.heap.size + 1]) (lt a4).1 (lt a4).2
        have q7 := Dr.cls_cell (M := [wr.heap.size, wr.heap.size + 1]) (lt b0).1 (lt b0).2
        have q8 := Dr.cls_cell (M := [wr.heap.size, wr.heap.size + 1]) (lt b1).1 (lt b1).2
        have q9 := Dr.cls_cell (M := [wr.heap.size, wr.heap.size + 1]) (lt b2).1 (lt b2).2
        have q10 := Dr.cls_cell (M := [wr.heap.size, wr.heap.size + 1]) (lt b3).1 (lt b3).2
        have q11 := Dr.cls_cell (M := [wr.heap.size, wr.heap.size + 1]) (lt b4).1 (lt b4).2
        clear lt x0 y0 a0 a1 a2 a3 a4 b0 b1 b2 b3 b4 hbr
        generalize World.drew _ = W at *
        refine Dr.plan_q (l := [_, _, _, _, _, _, _, _, _, _]) rfl (fun K hK => ?_)
        iterate 10 (go_big_quiet_step (fail))
        refine wpQuiet_nil (hK _ ?_); clear hK K
        clear q0 q1 q2 q3 q4 q5 q6 q7 q8 q9 q10 q11
        refine Dr.plan_e2 ?_ ?_
        · refine Dr.plan_e rfl (by rfl) (fun K hK => ?_)
          go_wp2_with fail
          refine hK _ _ (.of (ext_alloc _ _)) ?_; clear hK K
          refine Dr.plan_e rfl (by rfl) (fun K hK => ?_)
          go_wp2_with fail
          refine hK _ _ (.of (ext_alloc _ _)) ?_; clear hK K
          have n1 := (Blk.new W 82 [.int .i64 0, .int .i64 0, .int .u16 0, .slice none 0 0, .bool false]).alloc (.cells #[.int .i64 0, .int .i64 0, .int .u16 0, .slice none 0 0, .bool false] 50)
          have n2 := Blk.new (W.alloc (.cells #[.int .i64 0, .int .i64 0, .int .u16 0, .slice none 0 0, .bool false] 82)) 50 [.int .i64 0, .int .i64 0, .int .u16 0, .slice none 0 0, .bool false]
          have hbb : Below wr.heap.size wr ((W.alloc (.cells #[.int .i64 0, .int .i64 0, .int .u16 0, .slice none 0 0, .bool false] 82)).alloc (.cells #[.int .i64 0, .int .i64 0, .int .u16 0, .slice none 0 0, .bool false] 50)) := (hbrd.alloc hbrd.size _).alloc (by have := hbrd.size; simp; omega) _
          rw [World.size_alloc, hWs] at n2
          rw [hWs] at n1
          change Blk ((W.alloc (.cells #[.int .i64 0, .int .i64 0, .int .u16 0, .slice none 0 0, .bool false] 82)).alloc (.cells #[.int .i64 0, .int .i64 0, .int .u16 0, .slice none 0 0, .bool false] 50)) _ _ _ at n1 n2
          generalize (W.alloc (.cells #[.int .i64 0, .int .i64 0, .int .u16 0, .slice none 0 0, .bool false] 82)).alloc (.cells #[.int .i64 0, .int .i64 0, .int .u16 0, .slice none 0 0, .bool false] 50) = U at *
          clear hbrd
          have z0 : U.cell? ⟨wr.heap.size, 0, none⟩ = some _ := n1.cell (i := 0) rfl
          have f0 := n1.free 0
          have z1 : U.cell? ⟨wr.heap.size, 1, none⟩ = some _ := n1.cell (i := 1) rfl
          have f1 := n1.free 1
          have z2 : U.cell? ⟨wr.heap.size, 2, none⟩ = some _ := n1.cell (i := 2) rfl
          have f2 := n1.free 2
          have z3 : U.cell? ⟨wr.heap.size, 3, none⟩ = some _ := n1.cell (i := 3) rfl
          have f3 := n1.free 3
          have z4 : U.cell? ⟨wr.heap.size, 4, none⟩ = some _ := n1.cell (i := 4) rfl
          have f4 := n1.free 4
          refine Dr.plan_e rfl (by rfl) (fun K hK => ?_)
          go_wp2_with fail
          have e1 : puts U wr.heap.size 0 (AcV.enc ⟨s.act i, Ci, ci⟩) = (((((U.setCell ⟨wr.heap.size, 0, none⟩ (.int .i64 (s.act i).min)).setCell ⟨wr.heap.size, 1, none⟩ (.int .i64 (s.act i).ten)).setCell ⟨wr.heap.size, 2, none⟩ (.int .u16 (s.act i).rigs)).setCell ⟨wr.heap.size, 3, none⟩ (.slice Ci (s.act i).casts.length ci)).setCell ⟨wr.heap.size, 4, none⟩ (.bool (s.act i).spare)) := rfl
          have p1 := n1.put_eq (AcV.enc ⟨s.act i, Ci, ci⟩) e1 rfl
          have b1' := bel_put_eq (AcV.enc ⟨s.act i, Ci, ci⟩) e1
          have hbb2 := hbb.trans (Dr.Bel.old (n := wr.heap.size) b1' hbb.size (by simp))
          have p2 := b1'.blk n2 (by simp)
          refine hK _ _ (b1'.wide (by simp)) ?_; clear hK K
          clear e1 b1' hbb n1 n2 z0 z1 z2 z3 z4 f0 f1 f2 f3 f4
          generalize (((((U.setCell ⟨wr.heap.size, 0, none⟩ (.int .i64 (s.act i).min)).setCell ⟨wr.heap.size, 1, none⟩ (.int .i64 (s.act i).ten)).setCell ⟨wr.heap.size, 2, none⟩ (.int .u16 (s.act i).rigs)).setCell ⟨wr.heap.size, 3, none⟩ (.slice Ci (s.act i).casts.length ci)).setCell ⟨wr.heap.size, 4, none⟩ (.bool (s.act i).spare)) = U2 at *
          have z0 : U2.cell? ⟨(wr.heap.size + 1), 0, none⟩ = some _ := p2.cell (i := 0) rfl
          have f0 := p2.free 0
          have z1 : U2.cell? ⟨(wr.heap.size + 1), 1, none⟩ = some _ := p2.cell (i := 1) rfl
          have f1 := p2.free 1
          have z2 : U2.cell? ⟨(wr.heap.size + 1), 2, none⟩ = some _ := p2.cell (i := 2) rfl
          have f2 := p2.free 2
          have z3 : U2.cell? ⟨(wr.heap.size + 1), 3, none⟩ = some _ := p2.cell (i := 3) rfl
          have f3 := p2.free 3
          have z4 : U2.cell? ⟨(wr.heap.size + 1), 4, none⟩ = some _ := p2.cell (i := 4) rfl
          have f4 := p2.free 4
          refine Dr.plan_done (tl := [_]) rfl ?_
          go_wp2
          have e2 : puts U2 (wr.heap.size + 1) 0 (AcV.enc ⟨s.act i, Di, di⟩) = (((((U2.setCell ⟨(wr.heap.size + 1), 0, none⟩ (.int .i64 (s.act i).min)).setCell ⟨(wr.heap.size + 1), 1, none⟩ (.int .i64 (s.act i).ten)).setCell ⟨(wr.heap.size + 1), 2, none⟩ (.int .u16 (s.act i).rigs)).setCell ⟨(wr.heap.size + 1), 3, none⟩ (.slice Di (s.act i).casts.length di)).setCell ⟨(wr.heap.size + 1), 4, none⟩ (.bool (s.act i).spare)) := rfl
          have r1 := p2.put_eq (AcV.enc ⟨s.act i, Di, di⟩) e2 rfl
          have b2' := bel_put_eq (AcV.enc ⟨s.act i, Di, di⟩) e2
          have hbb3 := hbb2.trans (Dr.Bel.old (n := wr.heap.size) b2' hbb2.size (by simp))
          have r2 := b2'.blk p1 (by simp)
          clear e2 b2' z0 z1 z2 z3 z4 f0 f1 f2 f3 f4 p1 p2
          generalize (((((U2.setCell ⟨(wr.heap.size + 1), 0, none⟩ (.int .i64 (s.act i).min)).setCell ⟨(wr.heap.size + 1), 1, none⟩ (.int .i64 (s.act i).ten)).setCell ⟨(wr.heap.size + 1), 2, none⟩ (.int .u16 (s.act i).rigs)).setCell ⟨(wr.heap.size + 1), 3, none⟩ (.slice Di (s.act i).casts.length di)).setCell ⟨(wr.heap.size + 1), 4, none⟩ (.bool (s.act i).spare)) = U3 at *
          go_meet
          case rel => exact ⟨_, _, rfl, rfl, hbb3, r2, r1⟩
        · refine Dr.plan_e rfl (by rfl) (fun K hK => ?_)
          go_wp2_with fail
          refine hK _ _ (.of (ext_alloc _ _)) ?_; clear hK K
          refine Dr.plan_e rfl (by rfl) (fun K hK => ?_)
          go_wp2_with fail
          refine hK _ _ (.of (ext_alloc _ _)) ?_; clear hK K
          have n1 := (Blk.new W 50 [.int .i64 0, .int .i64 0, .int .u16 0, .slice none 0 0, .bool false]).alloc (.cells #[.int .i64 0, .int .i64 0, .int .u16 0, .slice none 0 0, .bool false] 82)
          have n2 := Blk.new (W.alloc (.cells #[.int .i64 0, .int .i64 0, .int .u16 0, .slice none 0 0, .bool false] 50)) 82 [.int .i64 0, .int .i64 0, .int .u16 0, .slice none 0 0, .bool false]
          have hbb : Below wr.heap.size wr ((W.alloc (.cells #[.int .i64 0, .int .i64 0, .int .u16 0, .slice none 0 0, .bool false] 50)).alloc (.cells #[.int .i64 0, .int .i64 0, .int .u16 0, .slice none 0 0, .bool false] 82)) := (hbrd.alloc hbrd.size _).alloc (by have := hbrd.size; simp; omega) _
          rw [World.size_alloc, hWs] at n2
          rw [hWs] at n1
          change Blk ((W.alloc (.cells #[.int .i64 0, .int .i64 0, .int .u16 0, .slice none 0 0, .bool false] 50)).alloc (.cells #[.int .i64 0, .int .i64 0, .int .u16 0, .slice none 0 0, .bool false] 82)) _ _ _ at n1 n2
          generalize (W.alloc (.cells #[.int .i64 0, .int .i64 0, .int .u16 0, .slice none 0 0, .bool false] 50)).alloc (.cells #[.int .i64 0, .int .i64 0, .int .u16 0, .slice none 0 0, .bool false] 82) = U at *
          clear hbrd
          have z0 : U.cell? ⟨(wr.heap.size + 1), 0, none⟩ = some _ := n2.cell (i := 0) rfl
          have f0 := n2.free 0
          have z1 : U.cell? ⟨(wr.heap.size + 1), 1, none⟩ = some _ := n2.cell (i := 1) rfl
          have f1 := n2.free 1
          have z2 : U.cell? ⟨(wr.heap.size + 1), 2, none⟩ = some _ := n2.cell (i := 2) rfl
          have f2 := n2.free 2
          have z3 : U.cell? ⟨(wr.heap.size + 1), 3, none⟩ = some _ := n2.cell (i := 3) rfl
          have f3 := n2.free 3
          have z4 : U.cell? ⟨(wr.heap.size + 1), 4, none⟩ = some _ := n2.cell (i := 4) rfl
          have f4 := n2.free 4
          refine Dr.plan_e rfl (by rfl) (fun K hK => ?_)
          go_wp2_with fail
          have e1 : puts U (wr.heap.size + 1) 0 (AcV.enc ⟨s.act i, Ci, ci⟩) = (((((U.setCell ⟨(wr.heap.size + 1), 0, none⟩ (.int .i64 (s.act i).min)).setCell ⟨(wr.heap.size + 1), 1, none⟩ (.int .i64 (s.act i).ten)).setCell ⟨(wr.heap.size + 1), 2, none⟩ (.int .u16 (s.act i).rigs)).setCell ⟨(wr.heap.size + 1), 3, none⟩ (.slice Ci (s.act i).casts.length ci)).setCell ⟨(wr.heap.size + 1), 4, none⟩ (.bool (s.act i).spare)) := rfl
          have p1 := n2.put_eq (AcV.enc ⟨s.act i, Ci, ci⟩) e1 rfl
          have b1' := bel_put_eq (AcV.enc ⟨s.act i, Ci, ci⟩) e1
          have hbb2 := hbb.trans (Dr.Bel.old (n := wr.heap.size) b1' hbb.size (by simp))
          have p2 := b1'.blk n1 (by simp)
          refine hK _ _ (b1'.wide (by simp)) ?_; clear hK K
          clear e1 b1' hbb n1 n2 z0 z1 z2 z3 z4 f0 f1 f2 f3 f4
          generalize (((((U.setCell ⟨(wr.heap.size + 1), 0, none⟩ (.int .i64 (s.act i).min)).setCell ⟨(wr.heap.size + 1), 1, none⟩ (.int .i64 (s.act i).ten)).setCell ⟨(wr.heap.size + 1), 2, none⟩ (.int .u16 (s.act i).rigs)).setCell ⟨(wr.heap.size + 1), 3, none⟩ (.slice Ci (s.act i).casts.length ci)).setCell ⟨(wr.heap.size + 1), 4, none⟩ (.bool (s.act i).spare)) = U2 at *
          have z0 : U2.cell? ⟨wr.heap.size, 0, none⟩ = some _ := p2.cell (i := 0) rfl
          have f0 := p2.free 0
          have z1 : U2.cell? ⟨wr.heap.size, 1, none⟩ = some _ := p2.cell (i := 1) rfl
          have f1 := p2.free 1
          have z2 : U2.cell? ⟨wr.heap.size, 2, none⟩ = some _ := p2.cell (i := 2) rfl
          have f2 := p2.free 2
          have z3 : U2.cell? ⟨wr.heap.size, 3, none⟩ = some _ := p2.cell (i := 3) rfl
          have f3 := p2.free 3
          have z4 : U2.cell? ⟨wr.heap.size, 4, none⟩ = some _ := p2.cell (i := 4) rfl
          have f4 := p2.free 4
          refine Dr.plan_done (tl := [_]) rfl ?_
          go_wp2
          have e2 : puts U2 wr.heap.size 0 (AcV.enc ⟨s.act i, Di, di⟩) = (((((U2.setCell ⟨wr.heap.size, 0, none⟩ (.int .i64 (s.act i).min)).setCell ⟨wr.heap.size, 1, none⟩ (.int .i64 (s.act i).ten)).setCell ⟨wr.heap.size, 2, none⟩ (.int .u16 (s.act i).rigs)).setCell ⟨wr.heap.size, 3, none⟩ (.slice Di (s.act i).casts.length di)).setCell ⟨wr.heap.size, 4, none⟩ (.bool (s.act i).spare)) := rfl
          have r1 := p2.put_eq (AcV.enc ⟨s.act i, Di, di⟩) e2 rfl
          have b2' := bel_put_eq (AcV.enc ⟨s.act i, Di, di⟩) e2
          have hbb3 := hbb2.trans (Dr.Bel.old (n := wr.heap.size) b2' hbb2.size (by simp))
          have r2 := b2'.blk p1 (by simp)
          clear e2 b2' z0 z1 z2 z3 z4 f0 f1 f2 f3 f4 p1 p2
          generalize (((((U2.setCell ⟨wr.heap.size, 0, none⟩ (.int .i64 (s.act i).min)).setCell ⟨wr.heap.size, 1, none⟩ (.int .i64 (s.act i).ten)).setCell ⟨wr.heap.size, 2, none⟩ (.int .u16 (s.act i).rigs)).setCell ⟨wr.heap.size, 3, none⟩ (.slice Di (s.act i).casts.length di)).setCell ⟨wr.heap.size, 4, none⟩ (.bool (s.act i).spare)) = U3 at *
          go_meet
          case rel => exact ⟨_, _, rfl, rfl, hbb3, r2, r1⟩
      case rest =>
        obtain ⟨X, Y, rfl, rfl, hbc, hX, hY⟩ := hcut
        clear x0 y0 a0 a1 a2 a3 a4 b0 b1 b2 b3 b4
        have Hcc := Lib.hid (fun W (hW : Below wc.heap.size wc W) => (Hcc.out.ext hbc).ext hW)
        have Hdd := Lib.hid (fun W (hW : Below wc.heap.size wc W) => (Hdd.out.ext hbc).ext hW)
        have hbr3 := Lib.hid (ext_trans hbr hbc)
        have Hbx := Lib.hid (fun W (hW : Below wc.heap.size wc W) => And.intro (hX.ext hW) (hY.ext hW))
        have z0 : wc.cell? ⟨X, 0, none⟩ = some (.int .i64 (s.act i).min) := hX.cell (i := 0) rfl
        have z1 : wc.cell? ⟨X, 1, none⟩ = some (.int .i64 (s.act i).ten) := hX.cell (i := 1) rfl
        have z2 : wc.cell? ⟨X, 2, none⟩ = some (.int .u16 (s.act i).rigs) := hX.cell (i := 2) rfl
        have z3 : wc.cell? ⟨X, 3, none⟩ = some (.slice Ci (s.act i).casts.length ci) := hX.cell (i := 3) rfl
        have z4 : wc.cell? ⟨X, 4, none⟩ = some (.bool (s.act i).spare) := hX.cell (i := 4) rfl
        have v0 : wc.cell? ⟨Y, 0, none⟩ = some (.int .i64 (s.act i).min) := hY.cell (i := 0) rfl
        have v1 : wc.cell? ⟨Y, 1, none⟩ = some (.int .i64 (s.act i).ten) := hY.cell (i := 1) rfl
        have v2 : wc.cell? ⟨Y, 2, none⟩ = some (.int .u16 (s.act i).rigs) := hY.cell (i := 2) rfl
        have v3 : wc.cell? ⟨Y, 3, none⟩ = some (.slice Di (s.act i).casts.length di) := hY.cell (i := 3) rfl
        have v4 : wc.cell? ⟨Y, 4, none⟩ = some (.bool (s.act i).spare) := hY.cell (i := 4) rfl
        clear hX hY hbc hbr
        go_upto_block 2 with fail
        clear z0 z1 z2 z3 z4 v0 v1 v2 v3 v4
        go_wp2
        go_loopw [8] (fun t wq => ∃ k : Nat, t = .int .i64 k ∧ k ≤ (s.act i).casts.length ∧ Below wc.heap.size wc wq) (fun t _ => (s.act i).casts.length - (intOf t).toNat)
        case atStart => exact ⟨0, rfl, by omega, Below.refl _ _⟩
        case round =>
          obtain ⟨k, rfl, hk, hbq⟩ := hrel
          obtain ⟨hX, hY⟩ := Hbx.out wr hbq
          have z3 : wr.cell? ⟨X, 3, none⟩ = some (.slice Ci (s.act i).casts.length ci) := hX.cell (i := 3) rfl
          have v3 : wr.cell? ⟨Y, 3, none⟩ = some (.slice Di (s.act i).casts.length di) := hY.cell (i := 3) rfl
          clear hX hY
          by_cases hkt : k < (s.act i).casts.length
          · have hkt' : (k : Int) < ((s.act i).casts.length : Int) := by omega
            have hk0 : (0 : Int) ≤ (k : Int) := by omega
            obtain ⟨bC, oC, hC, -, c0⟩ := (Hcc.out wr hbq).at1 hkt rfl
            obtain ⟨bD, oD, hD, -, d0⟩ := (Hdd.out wr hbq).at1 hkt rfl
            rw [hC] at z3
            rw [hD] at v3
            generalize (s.act i).casts[k] = ck at *
            go_upto_region 12 with fail
            have hbd := hbq.drew
            have q0 := Dr.cell0 (w := wr.drew) (show wr.drew.cell? _ = _ from z3)
            have q1 := Dr.cell0 (w := wr.drew) (show wr.drew.cell? _ = _ from v3)
            have q2 := Dr.cell0 (w := wr.drew) (show wr.drew.cell? _ = _ from c0)
            have q3 := Dr.cell0 (w := wr.drew) (show wr.drew.cell? _ = _ from d0)
            clear z3 v3 c0 d0 hbq hC hD
            refine Dr.wp_region_plan 11 [] (.q [0, 1, 2, 3, 4, 5, 6, 7, 8, 9, 10] .done) (by kernel_rfl) (by kernel_rfl) ?_
            refine Dr.plan_q (l := [_, _, _, _, _, _, _, _, _, _, _]) rfl (fun K hK => ?_)
            iterate 11 (go_big_quiet_step (fail))
            refine wpQuiet_nil (hK _ ?_); clear hK K q0 q1 q2 q3
            refine Dr.plan_end rfl ?_
            generalize World.drew _ = V at *
            go_wp2
            go_roundw
            case rel => exact ⟨k + 1, by go_num, by omega, hbd⟩
            case measure => simp [intOf]; omega
          · obtain rfl : k = (s.act i).casts.length := by omega
            clear hkt hk
            go_wp2
            go_roundw
            case rel =>
              first
              | exact ⟨i + 1, by go_num, by omega, ext_trans hbr3.out hbq⟩
              | (repeat apply Exists.intro
                 refine ⟨⟨?_, by omega, ext_trans hbr3.out hbq⟩, rfl⟩
                 go_num)
            case measure => simp [intOf]; omega
    · obtain rfl : i = s.acts.length := by omega
      have Hbr := Lib.hid hbr
      clear hbr hbw hS hT hi
      go_upto_block 4 with fail
      clear x0
      go_wp2
      generalize wr = w4 at *
      go_loopw [9] (fun t wq => ∃ k : Nat, t = .int .i64 k ∧ k ≤ s.before.length ∧ Below W3.heap.size W3 wq) (fun t _ => s.before.length - (intOf t).toNat)
      case atStart => exact ⟨0, rfl, by omega, Hbr.out⟩
      case round =>
        clear Hbr
        obtain ⟨k, rfl, hk, hbq⟩ := hrel
        obtain ⟨hbw, hS, hT⟩ := Hb3.out wr hbq
        have z6 : wr.cell? ⟨w.heap.size, 6, none⟩ = some (.slice p.B s.before.length p.cB) := hS.cell (i := 6) rfl
        have v6 : wr.cell? ⟨w.heap.size + 1, 6, none⟩ = some (.slice q.B s.before.length q.cB) := hT.cell (i := 6) rfl
        clear hS hT
        by_cases hkt : k < s.before.length
        · have hkt' : (k : Int) < (s.before.length : Int) := by omega
          have hk0 : (0 : Int) ≤ (k : Int) := by omega
          obtain ⟨bC, oC, hC, -, c0, c1⟩ := (Hp.out wr hbw).before.at2 hkt rfl
          obtain ⟨bD, oD, hD, -, d0, d1⟩ := (Hq.out wr hbw).before.at2 hkt rfl
          rw [hC] at z6
          rw [hD] at v6
          generalize s.before[k] = ck at *
          go_upto_region 17 with fail
          have hbd := hbq.drew
          have q0 := Dr.cell0 (w := wr.drew) (show wr.drew.cell? _ = _ from z6)
          have q1 := Dr.cell0 (w := wr.drew) (show wr.drew.cell? _ = _ from v6)
          have q2 := Dr.cell0 (w := wr.drew) (show wr.drew.cell? _ = _ from c0)
          have q3 := Dr.cell0 (w := wr.drew) (show wr.drew.cell? _ = _ from d0)
          have q4 := Dr.cell0 (w := wr.drew) (show wr.drew.cell? _ = _ from c1)
          have q5 := Dr.cell0 (w := wr.drew) (show wr.drew.cell? _ = _ from d1)
          clear z6 v6 c0 d0 c1 d1 hbq hbw hC hD
          refine Dr.wp_region_plan 11 [] (.q [0, 1, 2, 3, 4, 5, 6, 7, 8, 9, 10] .done) (by kernel_rfl) (by kernel_rfl) ?_
          refine Dr.plan_q (l := [_, _, _, _, _, _, _, _, _, _, _]) rfl (fun K hK => ?_)
          iterate 11 (go_big_quiet_step (fail))
          refine wpQuiet_nil (hK _ ?_); clear hK K q0 q1 q2 q3 q4 q5
          refine Dr.plan_end rfl ?_
          generalize World.drew _ = V at *
          go_wp2
          go_roundw
          case rel => exact ⟨k + 1, by go_num, by omega, hbd⟩
          case measure => simp [intOf]; omega
        · obtain rfl : k = s.before.length := by omega
          clear hkt hk
          go_wp2
          go_ret
          exact ⟨rfl, hbw⟩
end Go.Proofs.Ytcnidhcdkbfpcaa

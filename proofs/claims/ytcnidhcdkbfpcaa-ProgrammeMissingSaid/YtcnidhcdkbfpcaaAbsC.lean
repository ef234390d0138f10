/- The law ProgrammeAbsences: its walk. -/
import Derived.Test.YtcnidhcdkbfpcaaAbsA
import Derived.Test.YtcnidhcdkbfpcaaAbsB
import Derived.Test.YtcnidhcdkbfpcaaPrlI
import Derived.Test.YtcnidhcdkbfpcaaPrlV
namespace Go.Proofs.Ytcnidhcdkbfpcaa
open Go.RowKit Go.Bs Go.Pg Go.Pl Go.Sort
theorem abv_at {W : World} {A : Option Addr} {L : List AbV} (h : Cells W A 3 AbV.enc L) {q : Nat} (hq : q < L.length) : ∃ b o, A = some ⟨b, o, none⟩ ∧ W.cell? ⟨b, o + q * 3, none⟩ = some (.slice L[q].A L[q].l.length L[q].c) ∧ W.cell? ⟨b, o + q * 3 + 1, none⟩ = some (.int .i64 L[q].e) ∧ W.cell? ⟨b, o + q * 3 + 2, none⟩ = some (.bool L[q].d) := by
  obtain ⟨b, o, hA, hc⟩ := h q L[q] (List.getElem?_eq_getElem hq)
  exact ⟨b, o, hA, hc 0 _ rfl, hc 1 _ rfl, hc 2 _ rfl⟩
theorem misL_len {s : Sh} {k : Nat} (hok : s.Ok) : (toI (s.misL k)).length ≤ 8 := by
  rw [toI_len]
  unfold Sh.misL
  split
  · simp
  · unfold Sh.old
    rw [List.length_map]
    cases h : s.misQ k with
    | none => simp
    | some q =>
      have h1 := (Sh.misQ_bd hok h).1
      have h2 := Sh.keptTo_le (s := s) (p := k) s.acts.length
      have h3 := hok.n8
      simp
      omega
set_option maxRecDepth 100000 in
set_option maxHeartbeats 10000000 in
theorem absences_law (s : Sh) (p : ShP) (w : World) (h : ShW w s p) :
    Calls Try.prog 11 #[shV s p] w fun e w' => e = .returned (.bool true) ∧ Below w.heap.size w w' := by
  have hb0 := ext_alloc w (.cells (shC s p).toArray 26)
  have hS := Blk.new w 26 (shC s p)
  have h0 := h.ext hb0
  clear h
  unfold shV at *
  unfold shC at *
  go_enter Try.func11, Try.ntmps11
  go_upto_region 1 with fail
  change Blk (w.alloc (.cells #[.slice p.A s.acts.length p.cA, .slice p.R s.rest.length p.cR, .slice p.I s.ins.length p.cI, .slice p.O s.outs.length p.cO, .int .i64 s.cover, .int .i64 s.dull, .slice p.B s.before.length p.cB] 26)) _ _ _ at hS
  generalize w.alloc (.cells #[.slice p.A s.acts.length p.cA, .slice p.R s.rest.length p.cR, .slice p.I s.ins.length p.cI, .slice p.O s.outs.length p.cO, .int .i64 s.cover, .int .i64 s.dull, .slice p.B s.before.length p.cB] 26) = W0 at *
  have HL := Lib.hid (light_any s p W0 h0)
  generalize hlt : (s.fewB && (decide (s.acts.length ≤ 5) || decide (8 < s.acts.length))) = lt at *
  have x0 : W0.cell? ⟨w.heap.size, 0, none⟩ = _ := hS.cell (i := 0) rfl
  have x1 : W0.cell? ⟨w.heap.size, 1, none⟩ = _ := hS.cell (i := 1) rfl
  have x2 : W0.cell? ⟨w.heap.size, 2, none⟩ = _ := hS.cell (i := 2) rfl
  have x3 : W0.cell? ⟨w.heap.size, 3, none⟩ = _ := hS.cell (i := 3) rfl
  have x4 : W0.cell? ⟨w.heap.size, 4, none⟩ = _ := hS.cell (i := 4) rfl
  have x5 : W0.cell? ⟨w.heap.size, 5, none⟩ = _ := hS.cell (i := 5) rfl
  have x6 : W0.cell? ⟨w.heap.size, 6, none⟩ = _ := hS.cell (i := 6) rfl
  go_wp2_with fail
  refine HL.out.mono ?_; rintro e W1 ⟨rfl, hb1⟩
  clear HL
  cases lt
  · clear x0 x1 x2 x3 x4 x5 x6 hlt
    go_wp2_with fail
    refine (wakes_any _).mono ?_; rintro e wz ⟨rfl, hbz⟩
    go_wp2
    go_ret
    exact ⟨rfl, ext_trans (ext_trans hb0 hb1) hbz⟩
  have hf : s.fewB = true := by
    cases hx : s.fewB
    · rw [hx] at hlt; cases hlt
    · rfl
  have hm1 := (h0.few hf).ext hb1
  have hS1 := hS.ext hb1
  have hbw := ext_trans hb0 hb1
  clear hb0 hb1 h0 hS hf hlt x0 x1 x2 x3 x4 x5 x6
  have x0 : W1.cell? ⟨w.heap.size, 0, none⟩ = _ := hS1.cell (i := 0) rfl
  have x1 : W1.cell? ⟨w.heap.size, 1, none⟩ = _ := hS1.cell (i := 1) rfl
  have x2 : W1.cell? ⟨w.heap.size, 2, none⟩ = _ := hS1.cell (i := 2) rfl
  have x3 : W1.cell? ⟨w.heap.size, 3, none⟩ = _ := hS1.cell (i := 3) rfl
  have x4 : W1.cell? ⟨w.heap.size, 4, none⟩ = _ := hS1.cell (i := 4) rfl
  have x5 : W1.cell? ⟨w.heap.size, 5, none⟩ = _ := hS1.cell (i := 5) rfl
  have x6 : W1.cell? ⟨w.heap.size, 6, none⟩ = _ := hS1.cell (i := 6) rfl
  go_wp2_with fail
  refine (Show_any s p W1 hm1).mono ?_; rintro e W2 ⟨⟨p1, rfl, hm2⟩, hb2⟩
  go_wp2_with fail
  refine (Absences_any s p1 W2 hm2).mono ?_; rintro e W3 ⟨hR, hb3⟩
  clear x0 x1 x2 x3 x4 x5 x6
  have hb23 := ext_trans hb2 hb3
  have hm3 := hm1.ext hb23
  have hS3 := hS1.ext hb23
  have hbw3 := ext_trans hbw hb23
  have m2 := hm1.small.2.1
  clear hm1 hS1 hbw hb2 hb3 hb23 hm2
  have CR := Lib.hid (Right_any s p W3 hm3)
  unfold AbsR at hR
  have x0 : W3.cell? ⟨w.heap.size, 0, none⟩ = _ := hS3.cell (i := 0) rfl
  have x1 : W3.cell? ⟨w.heap.size, 1, none⟩ = _ := hS3.cell (i := 1) rfl
  have x2 : W3.cell? ⟨w.heap.size, 2, none⟩ = _ := hS3.cell (i := 2) rfl
  have x3 : W3.cell? ⟨w.heap.size, 3, none⟩ = _ := hS3.cell (i := 3) rfl
  have x4 : W3.cell? ⟨w.heap.size, 4, none⟩ = _ := hS3.cell (i := 4) rfl
  have x5 : W3.cell? ⟨w.heap.size, 5, none⟩ = _ := hS3.cell (i := 5) rfl
  have x6 : W3.cell? ⟨w.heap.size, 6, none⟩ = _ := hS3.cell (i := 6) rfl
  rcases hR with ⟨hok, rfl⟩ | ⟨hok, v, L, rfl, hA, hL⟩
  · rw [hok] at CR
    clear hok
    go_wp2_with fail
    refine CR.out.mono ?_; rintro e W4 ⟨rfl, hb4⟩
    go_wp2_with fail
    refine (wakes_any _).mono ?_; rintro e wz ⟨rfl, hbz⟩
    go_wp2
    go_ret
    exact ⟨rfl, ext_trans (ext_trans hbw3 hb4) hbz⟩
  rw [hok] at CR
  have Hok := Lib.hid (Sh.ok_of hok)
  clear hok
  go_wp2_with fail
  refine CR.out.mono ?_; rintro e W4 ⟨rfl, hb4⟩
  clear x0 x1 x2 x3 x4 x5 x6
  have hm4 := hm3.ext hb4
  have hS4 := hS3.ext hb4
  have hbw4 := ext_trans hbw3 hb4
  have hA4 := hA.ext hb4
  clear hm3 hS3 hbw3 hb4 hA CR
  obtain ⟨A, c, rfl, -, -, -⟩ := hA4.own.cells abv_len
  have HLg := Lib.hid hL.2
  rw [hL.1]
  have hll := hL.1
  clear hL
  have HE := Lib.hid (fun W (hW : Below W4.heap.size W4 W) => And.intro (hm4.ext hW) (And.intro (hS4.ext hW) (And.intro (ext_trans hbw4 hW) (hA4.ext hW))))
  have x1 : W4.cell? ⟨w.heap.size, 1, none⟩ = _ := hS4.cell (i := 1) rfl
  have Hll := Lib.hid hll
  clear hm4 hS4 hbw4 hA4 hll
  go_upto_block 0 with fail
  clear x1
  go_wp2
  go_loopw [5] (fun t wr => ∃ (k : Nat), t = .int .i64 k ∧ k ≤ s.rest.length ∧ Below W4.heap.size W4 wr) (fun t _ => s.rest.length - (intOf t).toNat)
  case atStart => exact ⟨0, rfl, by omega, Below.refl _ _⟩
  case round =>
    obtain ⟨k, rfl, hk, hb⟩ := hrel
    obtain ⟨hm, hSw, hbw, hAw⟩ := HE.out wr hb
    by_cases hlt : k < s.rest.length
    · have hlt' : (k : Int) < (s.rest.length : Int) := by omega
      have hk0 : (0 : Int) ≤ (k : Int) := by omega
      have CM := Lib.hid (RMissing_any s p k wr hm Hok.out hlt)
      have x0 : wr.cell? ⟨w.heap.size, 0, none⟩ = _ := hSw.cell (i := 0) rfl
      have x1 : wr.cell? ⟨w.heap.size, 1, none⟩ = _ := hSw.cell (i := 1) rfl
      have x2 : wr.cell? ⟨w.heap.size, 2, none⟩ = _ := hSw.cell (i := 2) rfl
      have x3 : wr.cell? ⟨w.heap.size, 3, none⟩ = _ := hSw.cell (i := 3) rfl
      have x4 : wr.cell? ⟨w.heap.size, 4, none⟩ = _ := hSw.cell (i := 4) rfl
      have x5 : wr.cell? ⟨w.heap.size, 5, none⟩ = _ := hSw.cell (i := 5) rfl
      have x6 : wr.cell? ⟨w.heap.size, 6, none⟩ = _ := hSw.cell (i := 6) rfl
      go_wp2_with fail
      refine CM.out.mono ?_; rintro e V1 ⟨⟨v, rfl, hv⟩, hb5⟩
      clear x0 x1 x2 x3 x4 x5 x6
      have hb5w := ext_trans hb hb5
      clear hm hSw hbw hAw hb hb5 CM
      obtain ⟨A2, c2, rfl, -, -, hv2⟩ := hv.cells encI_len
      clear hv
      go_upto_region 12 with fail
      have hN : Blk (V1.alloc (.cells #[.slice A2 (toI (s.misL k)).length c2, .int .i64 (s.misE k), .bool (s.misD k)] 78)) V1.heap.size 78 [.slice A2 (toI (s.misL k)).length c2, .int .i64 (s.misE k), .bool (s.misD k)] := Blk.new V1 78 _
      have hAl := ext_alloc V1 (.cells #[.slice A2 (toI (s.misL k)).length c2, .int .i64 (s.misE k), .bool (s.misD k)] 78)
      have hv3 := hv2.ext hAl
      have hb6w := ext_trans hb5w hAl
      clear hv2 hb5w hAl
      generalize V1.heap.size = N at *
      generalize V1.alloc (.cells #[.slice A2 (toI (s.misL k)).length c2, .int .i64 (s.misE k), .bool (s.misD k)] 78) = V2 at *
      refine Dr.wp_region_plan 29 [] (.q [0, 1, 2, 3, 4, 5, 6] (.e1 7 (.q [8, 9, 10, 11, 12, 13, 14, 15, 16, 17, 18, 19, 20, 21, 22, 23, 24, 25, 26, 27, 28] .done))) (by kernel_rfl) (by kernel_rfl) ?_
      have hN7 := hN.ext (ext_drew V2)
      have hv7 := hv3.ext (ext_drew V2)
      have hb7w := ext_trans hb6w (ext_drew V2)
      clear hN hv3 hb6w
      generalize World.drew _ = V3 at *
      have hlk : k < L.length := by rw [Hll.out]; exact hlt
      obtain ⟨g1, g2, g3⟩ := HLg.out k L[k] (List.getElem?_eq_getElem hlk)
      have hrow := (((HE.out V3 hb7w).2.2.2.rows L[k] (List.getElem_mem hlk)).cl encI_len)
      have hcl := (HE.out V3 hb7w).2.2.2.own.cl abv_len
      obtain ⟨ba, oa, rfl, d0, d1, d2⟩ := abv_at hcl hlk
      have HN7 := Lib.hid hN7
      have hml : (toI (s.misL k)).length ≤ 1000 := Nat.le_trans (misL_len Hok.out) (by decide)
      rw [g1] at d0 hrow
      rw [g2] at d1
      rw [g3] at d2
      generalize L[k].A = Ax at *
      generalize L[k].c = cx at *
      generalize toI (s.misL k) = ml at *
      generalize s.misE k = me at *
      generalize s.misD k = md at *
      have CI := Lib.hid (ints_same (c := cx) (d := c2) (W := V3) hml hrow hv7)
      have q0 := Dr.cell0 (HN7.out.cell (i := 0) rfl)
      have q1 := Dr.cell0 (w := V3) (show V3.cell? _ = _ from d0)
      clear g1 g2 g3 hN7 hrow hcl hlk
      refine Dr.plan_q (l := [_, _, _, _, _, _, _]) rfl (fun K hK => ?_)
      iterate 7 (go_big_quiet_step (fail))
      refine wpQuiet_nil (hK _ ?_); clear hK K q0 q1
      refine Dr.plan_e rfl (by rfl) (fun K hK => ?_)
      go_wp2_with fail
      refine CI.out.mono ?_; rintro e V4 ⟨rfl, hb8⟩
      refine hK _ _ (.of hb8) ?_; clear hK K CI
      have hN8 := HN7.out.ext hb8
      have q1 := Dr.cell0 (hN8.cell (i := 1) rfl)
      have q2 := Dr.cell0 (hN8.cell (i := 2) rfl)
      have q3 := Dr.cell0 (w := V4) ((hb8.cell (by exact block_lt_of_cell d1)).trans d1)
      have q4 := Dr.cell0 (w := V4) ((hb8.cell (by exact block_lt_of_cell d2)).trans d2)
      have hb8w := ext_trans hb7w hb8
      clear hb7w hb8 d0 d1 d2 HN7 hN8 hv7
      refine Dr.plan_q (l := [_, _, _, _, _, _, _, _, _, _, _, _, _, _, _, _, _, _, _, _, _]) rfl (fun K hK => ?_)
      iterate 21 (go_big_quiet_step (fail))
      refine wpQuiet_nil (hK _ ?_); clear hK K q1 q2 q3 q4
      refine Dr.plan_end rfl ?_
      go_wp2
      go_roundw
      case rel => exact ⟨k + 1, by go_num, by omega, hb8w⟩
      case measure => simp [intOf] <;> omega
    · obtain rfl : k = s.rest.length := by omega
      clear hm hSw hAw
      go_wp2_with fail
      refine (wakes_any _).mono ?_; rintro e wz ⟨rfl, hbz⟩
      go_wp2
      go_ret
      exact ⟨rfl, ext_trans hbw hbz⟩
end Go.Proofs.Ytcnidhcdkbfpcaa

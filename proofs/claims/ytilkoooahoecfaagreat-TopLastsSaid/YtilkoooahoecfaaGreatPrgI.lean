/- Walk: the first fault of an act in its place. (Printed by mk_prgi.py.) -/
import Derived.Scope
import Derived.Test.YtilkoooahoecfaaGreatPgC
namespace Go.Proofs.YtilkoooahoecfaaGreat
open Go.RowKit Go.Bs Go.Pg Go.Pl Go.Sort
theorem early_ok (x : AcV) (i last sec : Int) (set : Nat) (P : Nat) (l : List (Int × Int)) (w : World) (hs : set < 65536) (hl : ∀ q ∈ l, 0 ≤ q.1 ∧ q.1 ≤ 7) (hP : Blk w P 117 (plC x i last sec set)) :
    PredF Tryz.prog 81 #[] #[.pointer (some ⟨P, 0, none⟩)] valP (fun q => decide (q.2 = i) && !set.testBit q.1.toNat) w l := by
  intro W q hq hb
  obtain ⟨q0, q1⟩ := q
  have hq7 := hl _ hq
  obtain ⟨k, rfl⟩ : ∃ k : Nat, q0 = k := ⟨q0.toNat, by simp only at hq7; omega⟩
  have hb0 := ext_alloc W (.cells #[.int .i64 (k : Int), .int .i64 q1] 52)
  have hQ := Blk.new W 52 [.int .i64 (k : Int), .int .i64 q1]
  have hP1 := (hP.ext hb).ext hb0
  have hbit := bit16 set k hs
  show Calls Tryz.prog 81 #[.agg #[.int .i64 (k : Int), .int .i64 q1], .pointer (some ⟨P, 0, none⟩)] W fun e w' => e = .returned (.bool (decide (q1 = i) && !set.testBit (k : Int).toNat)) ∧ Below W.heap.size W w'
  rw [Int.toNat_natCast]
  simp only at hq7
  have hk7 : k ≤ 7 := by omega
  clear hq hl hP hb hq7
  go_enter Tryz.func81, Tryz.ntmps81
  go_upto_region 1 with fail
  change Blk (W.alloc (.cells #[.int .i64 (k : Int), .int .i64 q1] 52)) _ _ _ at hQ
  generalize W.alloc (.cells #[.int .i64 (k : Int), .int .i64 q1] 52) = W0 at *
  have c0 : W0.cell? ⟨W.heap.size, 0, none⟩ = _ := hQ.cell rfl
  have c1 : W0.cell? ⟨W.heap.size, 1, none⟩ = _ := hQ.cell rfl
  have p5 : W0.cell? ⟨P, 5, none⟩ = _ := hP1.cell (i := 5) rfl
  have p8 : W0.cell? ⟨P, 8, none⟩ = _ := hP1.cell (i := 8) rfl
  by_cases h : q1 = i
  · cases hb : set.testBit k
    · rw [hb] at hbit
      simp only [Bool.false_eq_true, if_false] at hbit
      go_wp2
      go_ret
      exact ⟨by simp [h, hb], hb0⟩
    · rw [hb] at hbit
      simp only [if_true] at hbit
      go_wp2
      go_ret
      exact ⟨by simp [hb], hb0⟩
  · have h' : (q1 == i) = false := by simpa using h
    go_wp2
    go_ret
    exact ⟨by simp [h], hb0⟩
def faultsB (bL bT bE : Bool) : Nat := if bL = true then 1 else if bT = true then 2 else if bE = true then 3 else 0
set_option maxRecDepth 100000 in
set_option maxHeartbeats 8000000 in
theorem why_any (s : Sh) (p : ShP) (x : AcV) (i : Nat) (last sec : Int) (set : Nat) (w : World) (h : ShM w s p) (hok : s.Ok) (hi : i < s.acts.length) (hx : x.a = s.act i) (hs : set < 65536)
    (hl : last = -1 ∧ sec = -1 ∨ ∃ k : Nat, k < s.acts.length ∧ last = k ∧ (sec = -1 ∨ ∃ j : Nat, j < s.acts.length ∧ sec = j)) :
    Calls Tryz.prog 52 #[shV s p, plV x i last sec set] w fun e w' => e = .returned (.int .u8 (s.why i last sec set)) ∧ Below w.heap.size w w' := by
  have hqs : ∀ q ∈ s.before, 0 ≤ q.1 ∧ q.1 ≤ 7 := fun q hq => by
    have h1 := hok.before q hq
    have h2 := hok.n8
    unfold Sh.pairB at h1
    rw [Bool.and_eq_true, Bool.and_eq_true, btw_iff] at h1
    omega
  have CE := Lib.hid (fun W (hW : Below w.heap.size w W) (hP : Blk W (w.heap.size + 1) 117 (plC x i last sec set)) => contains_pr 81 #[] #[.pointer (some ⟨w.heap.size + 1, 0, none⟩)] (fun q => decide (q.2 = (i : Int)) && !set.testBit q.1.toNat) p.B s.before.length p.cB s.before W (enters_of Tryz.func81 (by kernel_rfl) rfl) rfl (by have := h.small.2.2.2.2; omega) (h.before.ext hW) (early_ok x i last sec set _ s.before W hs hqs hP))
  change Hid (∀ W, Below w.heap.size w W → Blk W (w.heap.size + 1) 117 (plC x i last sec set) → Calls Tryz.prog 80 #[.slice p.B s.before.length p.cB, .func (.func 81) #[] #[.pointer (some ⟨w.heap.size + 1, 0, none⟩)]] W fun e w' => e = .returned (.bool (s.early i set)) ∧ Below W.heap.size W w') at CE
  generalize hbE : s.early i set = bE at *
  obtain ⟨bL, bT, hL, hT, hw⟩ : ∃ bL bT : Bool, (decide (0 ≤ last) && decide (s.cover < s.chM last.toNat i)) = bL ∧ (decide (0 ≤ last) && s.tired last.toNat i 0 || decide (0 ≤ sec) && s.tired sec.toNat i 1) = bT ∧ s.why i last sec set = faultsB bL bT bE := ⟨_, _, rfl, rfl, by unfold Sh.why faultsB; rw [hbE]⟩
  rw [hw]
  clear hbE hw hqs
  have hb0 : Below w.heap.size w ((w.alloc (.cells (shC s p).toArray 36)).alloc (.cells (plC x i last sec set).toArray 117)) := ((Below.refl _ _).alloc (Nat.le_refl _) _).alloc (by simp) _
  have hS := (Blk.new w 36 (shC s p)).alloc (.cells (plC x i last sec set).toArray 117)
  have hP := Blk.new (w.alloc (.cells (shC s p).toArray 36)) 117 (plC x i last sec set)
  simp only [World.size_alloc] at hP
  generalize hrb : (fun (e : Ending) (w' : World) => e = Ending.returned (.int .u8 (faultsB bL bT bE)) ∧ Below w.heap.size w w') = RR
  have CL := Lib.hid (fun (k : Nat) (hk : k < s.acts.length) (e : last = k) W (hW : Below w.heap.size w W) => long_any s p x k i sec set W (h.ext hW) hok hk hi hx)
  have CT := Lib.hid (fun (k : Nat) (hk : k < s.acts.length) (bt : Int) W (hW : Below w.heap.size w W) => tired_any s p k i bt W (h.ext hW) hok hk hi)
  clear h hok hx hs
  unfold shV plV
  go_enter Tryz.func52, Tryz.ntmps52
  go_upto_region 1 with fail
  change Blk ((w.alloc (.cells (shC s p).toArray 36)).alloc (.cells (plC x i last sec set).toArray 117)) _ _ _ at hS hP
  unfold shC plC at hb0 hS hP
  change Below w.heap.size w ((w.alloc (.cells #[.slice p.A s.acts.length p.cA, .slice p.R s.rest.length p.cR, .slice p.I s.ins.length p.cI, .slice p.O s.outs.length p.cO, .int .i64 s.cover, .int .i64 s.dull, .slice p.B s.before.length p.cB] 36)).alloc (.cells #[.int .i64 x.a.min, .int .i64 x.a.ten, .int .u16 x.a.rigs, .slice x.C x.a.casts.length x.c, .bool x.a.spare, .int .i64 i, .int .i64 last, .int .i64 sec, .int .u16 set] 117)) at hb0
  change Blk ((w.alloc (.cells #[.slice p.A s.acts.length p.cA, .slice p.R s.rest.length p.cR, .slice p.I s.ins.length p.cI, .slice p.O s.outs.length p.cO, .int .i64 s.cover, .int .i64 s.dull, .slice p.B s.before.length p.cB] 36)).alloc (.cells #[.int .i64 x.a.min, .int .i64 x.a.ten, .int .u16 x.a.rigs, .slice x.C x.a.casts.length x.c, .bool x.a.spare, .int .i64 i, .int .i64 last, .int .i64 sec, .int .u16 set] 117)) _ _ _ at hS hP
  generalize (w.alloc (.cells #[.slice p.A s.acts.length p.cA, .slice p.R s.rest.length p.cR, .slice p.I s.ins.length p.cI, .slice p.O s.outs.length p.cO, .int .i64 s.cover, .int .i64 s.dull, .slice p.B s.before.length p.cB] 36)).alloc (.cells #[.int .i64 x.a.min, .int .i64 x.a.ten, .int .u16 x.a.rigs, .slice x.C x.a.casts.length x.c, .bool x.a.spare, .int .i64 i, .int .i64 last, .int .i64 sec, .int .u16 set] 117) = W0 at *
  refine wp_scope_straight (wp_seq_k (fun KK hKK => ?_))
  go_cut [5] (fun v W => ∃ B, v = .pointer (some ⟨B, 0, none⟩) ∧ Blk W B 131 [.bool false, .bool bL, .bool bT, .bool bE] ∧ Below w.heap.size w W)
  case first =>
    refine Dr.wp_region_plan 38 [] (.q [0, 1, 2, 3, 4, 5, 8, 9, 10, 32, 33, 34] (.e2 6 (.q [7, 11, 12, 13, 14, 15, 16] (.e2 17 (.q [18, 19, 20, 21, 22, 23, 24, 25, 26, 27, 28] (.e2 29 (.q [30, 31] (.e2 35 (.q [36] (.e1 37 .done)) 37 (.e1 35 (.q [36] .done)))) 37 (.e1 29 (.q [30, 31] (.e1 35 (.q [36] .done)))))) 37 (.e1 17 (.q [18, 19, 20, 21, 22, 23, 24, 25, 26, 27, 28] (.e1 29 (.q [30, 31] (.e1 35 (.q [36] .done)))))))) 37 (.e1 6 (.q [7, 11, 12, 13, 14, 15, 16] (.e1 17 (.q [18, 19, 20, 21, 22, 23, 24, 25, 26, 27, 28] (.e1 29 (.q [30, 31] (.e1 35 (.q [36] .done)))))))))) (by kernel_rfl) (by kernel_rfl) ?_
    have hb1 := hb0.drew
    have hS1 := hS.ext (ext_drew W0)
    have hP1 := hP.ext (ext_drew W0)
    clear hb0 hS hP
    generalize World.drew _ = V1 at *
    rcases hl with ⟨rfl, rfl⟩ | ⟨k, hk, rfl, hl⟩
    · have hL' : bL = false := by rw [← hL]; simp
      have hT' : bT = false := by rw [← hT]; simp
      subst hL'
      subst hT'
      clear hL hT CL CT
      have q0 := Dr.cell0 (hS1.cell (i := 0) rfl)
      have q1 := Dr.cell0 (hS1.cell (i := 1) rfl)
      have q2 := Dr.cell0 (hS1.cell (i := 2) rfl)
      have q3 := Dr.cell0 (hS1.cell (i := 3) rfl)
      have q4 := Dr.cell0 (hS1.cell (i := 4) rfl)
      have q5 := Dr.cell0 (hS1.cell (i := 5) rfl)
      have q6 := Dr.cell0 (hS1.cell (i := 6) rfl)
      have p0 := Dr.cell0 (hP1.cell (i := 0) rfl)
      have p1 := Dr.cell0 (hP1.cell (i := 1) rfl)
      have p2 := Dr.cell0 (hP1.cell (i := 2) rfl)
      have p3 := Dr.cell0 (hP1.cell (i := 3) rfl)
      have p4 := Dr.cell0 (hP1.cell (i := 4) rfl)
      have p5 := Dr.cell0 (hP1.cell (i := 5) rfl)
      have p6 := Dr.cell0 (hP1.cell (i := 6) rfl)
      have p7 := Dr.cell0 (hP1.cell (i := 7) rfl)
      have p8 := Dr.cell0 (hP1.cell (i := 8) rfl)
      refine Dr.plan_q (l := [_, _, _, _, _, _, _, _, _, _, _, _]) rfl (fun K hK => ?_)
      iterate 12 (go_big_quiet_step (fail))
      refine wpQuiet_nil (hK _ ?_); clear hK K
      clear q0 q1 q2 q3 q4 q5 q6 p0 p1 p2 p3 p4 p5 p6 p7 p8
      refine Dr.plan_e2 ?_ ?_
      · refine Dr.plan_e_skip rfl (by rfl) ?_; go_frame
        have q0 := Dr.cell0 (hS1.cell (i := 0) rfl)
        have q1 := Dr.cell0 (hS1.cell (i := 1) rfl)
        have q2 := Dr.cell0 (hS1.cell (i := 2) rfl)
        have q3 := Dr.cell0 (hS1.cell (i := 3) rfl)
        have q4 := Dr.cell0 (hS1.cell (i := 4) rfl)
        have q5 := Dr.cell0 (hS1.cell (i := 5) rfl)
        have q6 := Dr.cell0 (hS1.cell (i := 6) rfl)
        have p0 := Dr.cell0 (hP1.cell (i := 0) rfl)
        have p1 := Dr.cell0 (hP1.cell (i := 1) rfl)
        have p2 := Dr.cell0 (hP1.cell (i := 2) rfl)
        have p3 := Dr.cell0 (hP1.cell (i := 3) rfl)
        have p4 := Dr.cell0 (hP1.cell (i := 4) rfl)
        have p5 := Dr.cell0 (hP1.cell (i := 5) rfl)
        have p6 := Dr.cell0 (hP1.cell (i := 6) rfl)
        have p7 := Dr.cell0 (hP1.cell (i := 7) rfl)
        have p8 := Dr.cell0 (hP1.cell (i := 8) rfl)
        refine Dr.plan_q (l := [_, _, _, _, _, _, _]) rfl (fun K hK => ?_)
        iterate 7 (go_big_quiet_step (fail))
        refine wpQuiet_nil (hK _ ?_); clear hK K
        clear q0 q1 q2 q3 q4 q5 q6 p0 p1 p2 p3 p4 p5 p6 p7 p8
        refine Dr.plan_e2 ?_ ?_
        · refine Dr.plan_e_skip rfl (by rfl) ?_; go_frame
          have q0 := Dr.cell0 (hS1.cell (i := 0) rfl)
          have q1 := Dr.cell0 (hS1.cell (i := 1) rfl)
          have q2 := Dr.cell0 (hS1.cell (i := 2) rfl)
          have q3 := Dr.cell0 (hS1.cell (i := 3) rfl)
          have q4 := Dr.cell0 (hS1.cell (i := 4) rfl)
          have q5 := Dr.cell0 (hS1.cell (i := 5) rfl)
          have q6 := Dr.cell0 (hS1.cell (i := 6) rfl)
          have p0 := Dr.cell0 (hP1.cell (i := 0) rfl)
          have p1 := Dr.cell0 (hP1.cell (i := 1) rfl)
          have p2 := Dr.cell0 (hP1.cell (i := 2) rfl)
          have p3 := Dr.cell0 (hP1.cell (i := 3) rfl)
          have p4 := Dr.cell0 (hP1.cell (i := 4) rfl)
          have p5 := Dr.cell0 (hP1.cell (i := 5) rfl)
          have p6 := Dr.cell0 (hP1.cell (i := 6) rfl)
          have p7 := Dr.cell0 (hP1.cell (i := 7) rfl)
          have p8 := Dr.cell0 (hP1.cell (i := 8) rfl)
          refine Dr.plan_q (l := [_, _, _, _, _, _, _, _, _, _, _]) rfl (fun K hK => ?_)
          iterate 11 (go_big_quiet_step (fail))
          refine wpQuiet_nil (hK _ ?_); clear hK K
          clear q0 q1 q2 q3 q4 q5 q6 p0 p1 p2 p3 p4 p5 p6 p7 p8
          refine Dr.plan_e2 ?_ ?_
          · refine Dr.plan_e_skip rfl (by rfl) ?_; go_frame
            have q0 := Dr.cell0 (hS1.cell (i := 0) rfl)
            have q1 := Dr.cell0 (hS1.cell (i := 1) rfl)
            have q2 := Dr.cell0 (hS1.cell (i := 2) rfl)
            have q3 := Dr.cell0 (hS1.cell (i := 3) rfl)
            have q4 := Dr.cell0 (hS1.cell (i := 4) rfl)
            have q5 := Dr.cell0 (hS1.cell (i := 5) rfl)
            have q6 := Dr.cell0 (hS1.cell (i := 6) rfl)
            have p0 := Dr.cell0 (hP1.cell (i := 0) rfl)
            have p1 := Dr.cell0 (hP1.cell (i := 1) rfl)
            have p2 := Dr.cell0 (hP1.cell (i := 2) rfl)
            have p3 := Dr.cell0 (hP1.cell (i := 3) rfl)
            have p4 := Dr.cell0 (hP1.cell (i := 4) rfl)
            have p5 := Dr.cell0 (hP1.cell (i := 5) rfl)
            have p6 := Dr.cell0 (hP1.cell (i := 6) rfl)
            have p7 := Dr.cell0 (hP1.cell (i := 7) rfl)
            have p8 := Dr.cell0 (hP1.cell (i := 8) rfl)
            refine Dr.plan_q (l := [_, _]) rfl (fun K hK => ?_)
            iterate 2 (go_big_quiet_step (fail))
            refine wpQuiet_nil (hK _ ?_); clear hK K
            clear q0 q1 q2 q3 q4 q5 q6 p0 p1 p2 p3 p4 p5 p6 p7 p8
            refine Dr.plan_e2 ?_ ?_
            · have CC := Lib.hid (CE.out V1 hb1 hP1)
              try unfold shV plV at CC
              refine Dr.plan_e rfl (by rfl) (fun K hK => ?_)
              go_wp2_with fail
              refine CC.out.mono ?_; rintro e V2 ⟨rfl, hx2⟩
              refine hK _ _ (.of hx2) ?_; clear hK K CC
              have hb2 := hb1.trans (hx2.mono hb1.size)
              have hS2 := hS1.ext hx2
              have hP2 := hP1.ext hx2
              clear hx2 hb1 hS1 hP1
              have q0 := Dr.cell0 (hS2.cell (i := 0) rfl)
              have q1 := Dr.cell0 (hS2.cell (i := 1) rfl)
              have q2 := Dr.cell0 (hS2.cell (i := 2) rfl)
              have q3 := Dr.cell0 (hS2.cell (i := 3) rfl)
              have q4 := Dr.cell0 (hS2.cell (i := 4) rfl)
              have q5 := Dr.cell0 (hS2.cell (i := 5) rfl)
              have q6 := Dr.cell0 (hS2.cell (i := 6) rfl)
              have p0 := Dr.cell0 (hP2.cell (i := 0) rfl)
              have p1 := Dr.cell0 (hP2.cell (i := 1) rfl)
              have p2 := Dr.cell0 (hP2.cell (i := 2) rfl)
              have p3 := Dr.cell0 (hP2.cell (i := 3) rfl)
              have p4 := Dr.cell0 (hP2.cell (i := 4) rfl)
              have p5 := Dr.cell0 (hP2.cell (i := 5) rfl)
              have p6 := Dr.cell0 (hP2.cell (i := 6) rfl)
              have p7 := Dr.cell0 (hP2.cell (i := 7) rfl)
              have p8 := Dr.cell0 (hP2.cell (i := 8) rfl)
              refine Dr.plan_q (l := [_]) rfl (fun K hK => ?_)
              iterate 1 (go_big_quiet_step (fail))
              refine wpQuiet_nil (hK _ ?_); clear hK K
              clear q0 q1 q2 q3 q4 q5 q6 p0 p1 p2 p3 p4 p5 p6 p7 p8
              refine Dr.plan_e rfl (by rfl) (fun K hK => ?_)
              go_wp2_with fail
              refine hK _ _ (.of (ext_alloc _ _)) ?_; clear hK K
              have hx3 := ext_alloc V2 (.cells #[.bool false, .bool false, .bool false, .bool false] 131)
              have hA3 := Blk.new V2 131 [.bool false, .bool false, .bool false, .bool false]
              have hAg := hb2.size
              have hb3 := hb2.trans (hx3.mono hb2.size)
              have hS3 := hS2.ext hx3
              have hP3 := hP2.ext hx3
              change Blk (V2.alloc (.cells #[.bool false, .bool false, .bool false, .bool false] 131)) _ _ _ at hA3
              generalize V2.alloc (.cells #[.bool false, .bool false, .bool false, .bool false] 131) = V3 at *
              clear hx3 hb2 hS2 hP2
              have z0 : V3.cell? ⟨V2.heap.size, 0, none⟩ = _ := hA3.cell (i := 0) rfl
              have z1 : V3.cell? ⟨V2.heap.size, 1, none⟩ = _ := hA3.cell (i := 1) rfl
              have z2 : V3.cell? ⟨V2.heap.size, 2, none⟩ = _ := hA3.cell (i := 2) rfl
              have z3 : V3.cell? ⟨V2.heap.size, 3, none⟩ = _ := hA3.cell (i := 3) rfl
              have f0 := hA3.free 0
              have f1 := hA3.free 1
              have f2 := hA3.free 2
              have f3 := hA3.free 3
              refine Dr.plan_done (tl := [_]) rfl ?_
              go_wp2
              have e1 : puts V3 V2.heap.size 0 [.bool false, .bool false, .bool false, .bool bE] = ((((V3.setCell ⟨V2.heap.size, 0, none⟩ (.bool false)).setCell ⟨V2.heap.size, 1, none⟩ (.bool false)).setCell ⟨V2.heap.size, 2, none⟩ (.bool false)).setCell ⟨V2.heap.size, 3, none⟩ (.bool bE)) := rfl
              have r1 := hA3.put_eq [.bool false, .bool false, .bool false, .bool bE] e1 rfl
              have b1 := bel_put_eq [.bool false, .bool false, .bool false, .bool bE] e1
              have hbf := hb3.trans (Dr.Bel.old (n := w.heap.size) b1 (hb3.size) (by simpa using hAg))
              clear e1 b1 z0 z1 z2 z3 f0 f1 f2 f3
              generalize ((((V3.setCell ⟨V2.heap.size, 0, none⟩ (.bool false)).setCell ⟨V2.heap.size, 1, none⟩ (.bool false)).setCell ⟨V2.heap.size, 2, none⟩ (.bool false)).setCell ⟨V2.heap.size, 3, none⟩ (.bool bE)) = Vf at *
              go_meet
              case rel => exact ⟨_, rfl, r1, hbf⟩
            · refine Dr.plan_e rfl (by rfl) (fun K hK => ?_)
              go_wp2_with fail
              refine hK _ _ (.of (ext_alloc _ _)) ?_; clear hK K
              have hx2 := ext_alloc V1 (.cells #[.bool false, .bool false, .bool false, .bool false] 131)
              have hA2 := Blk.new V1 131 [.bool false, .bool false, .bool false, .bool false]
              have hAg := hb1.size
              have hb2 := hb1.trans (hx2.mono hb1.size)
              have hS2 := hS1.ext hx2
              have hP2 := hP1.ext hx2
              change Blk (V1.alloc (.cells #[.bool false, .bool false, .bool false, .bool false] 131)) _ _ _ at hA2
              generalize V1.alloc (.cells #[.bool false, .bool false, .bool false, .bool false] 131) = V2 at *
              clear hx2 hb1 hS1 hP1
              have CC := Lib.hid (CE.out V2 hb2 hP2)
              try unfold shV plV at CC
              refine Dr.plan_e rfl (by rfl) (fun K hK => ?_)
              go_wp2_with fail
              refine CC.out.mono ?_; rintro e V3 ⟨rfl, hx3⟩
              refine hK _ _ (.of hx3) ?_; clear hK K CC
              have hb3 := hb2.trans (hx3.mono hb2.size)
              have hS3 := hS2.ext hx3
              have hP3 := hP2.ext hx3
              have hA3 := hA2.ext hx3
              clear hx3 hb2 hS2 hP2 hA2
              have q0 := Dr.cell0 (hS3.cell (i := 0) rfl)
              have q1 := Dr.cell0 (hS3.cell (i := 1) rfl)
              have q2 := Dr.cell0 (hS3.cell (i := 2) rfl)
              have q3 := Dr.cell0 (hS3.cell (i := 3) rfl)
              have q4 := Dr.cell0 (hS3.cell (i := 4) rfl)
              have q5 := Dr.cell0 (hS3.cell (i := 5) rfl)
              have q6 := Dr.cell0 (hS3.cell (i := 6) rfl)
              have p0 := Dr.cell0 (hP3.cell (i := 0) rfl)
              have p1 := Dr.cell0 (hP3.cell (i := 1) rfl)
              have p2 := Dr.cell0 (hP3.cell (i := 2) rfl)
              have p3 := Dr.cell0 (hP3.cell (i := 3) rfl)
              have p4 := Dr.cell0 (hP3.cell (i := 4) rfl)
              have p5 := Dr.cell0 (hP3.cell (i := 5) rfl)
              have p6 := Dr.cell0 (hP3.cell (i := 6) rfl)
              have p7 := Dr.cell0 (hP3.cell (i := 7) rfl)
              have p8 := Dr.cell0 (hP3.cell (i := 8) rfl)
              refine Dr.plan_q (l := [_]) rfl (fun K hK => ?_)
              iterate 1 (go_big_quiet_step (fail))
              refine wpQuiet_nil (hK _ ?_); clear hK K
              clear q0 q1 q2 q3 q4 q5 q6 p0 p1 p2 p3 p4 p5 p6 p7 p8
              have z0 : V3.cell? ⟨V1.heap.size, 0, none⟩ = _ := hA3.cell (i := 0) rfl
              have z1 : V3.cell? ⟨V1.heap.size, 1, none⟩ = _ := hA3.cell (i := 1) rfl
              have z2 : V3.cell? ⟨V1.heap.size, 2, none⟩ = _ := hA3.cell (i := 2) rfl
              have z3 : V3.cell? ⟨V1.heap.size, 3, none⟩ = _ := hA3.cell (i := 3) rfl
              have f0 := hA3.free 0
              have f1 := hA3.free 1
              have f2 := hA3.free 2
              have f3 := hA3.free 3
              refine Dr.plan_done (tl := [_]) rfl ?_
              go_wp2
              have e1 : puts V3 V1.heap.size 0 [.bool false, .bool false, .bool false, .bool bE] = ((((V3.setCell ⟨V1.heap.size, 0, none⟩ (.bool false)).setCell ⟨V1.heap.size, 1, none⟩ (.bool false)).setCell ⟨V1.heap.size, 2, none⟩ (.bool false)).setCell ⟨V1.heap.size, 3, none⟩ (.bool bE)) := rfl
              have r1 := hA3.put_eq [.bool false, .bool false, .bool false, .bool bE] e1 rfl
              have b1 := bel_put_eq [.bool false, .bool false, .bool false, .bool bE] e1
              have hbf := hb3.trans (Dr.Bel.old (n := w.heap.size) b1 (hb3.size) (by simpa using hAg))
              clear e1 b1 z0 z1 z2 z3 f0 f1 f2 f3
              generalize ((((V3.setCell ⟨V1.heap.size, 0, none⟩ (.bool false)).setCell ⟨V1.heap.size, 1, none⟩ (.bool false)).setCell ⟨V1.heap.size, 2, none⟩ (.bool false)).setCell ⟨V1.heap.size, 3, none⟩ (.bool bE)) = Vf at *
              go_meet
              case rel => exact ⟨_, rfl, r1, hbf⟩
          · refine Dr.plan_e rfl (by rfl) (fun K hK => ?_)
            go_wp2_with fail
            refine hK _ _ (.of (ext_alloc _ _)) ?_; clear hK K
            have hx2 := ext_alloc V1 (.cells #[.bool false, .bool false, .bool false, .bool false] 131)
            have hA2 := Blk.new V1 131 [.bool false, .bool false, .bool false, .bool false]
            have hAg := hb1.size
            have hb2 := hb1.trans (hx2.mono hb1.size)
            have hS2 := hS1.ext hx2
            have hP2 := hP1.ext hx2
            change Blk (V1.alloc (.cells #[.bool false, .bool false, .bool false, .bool false] 131)) _ _ _ at hA2
            generalize V1.alloc (.cells #[.bool false, .bool false, .bool false, .bool false] 131) = V2 at *
            clear hx2 hb1 hS1 hP1
            refine Dr.plan_e_skip rfl (by rfl) ?_; go_frame
            have q0 := Dr.cell0 (hS2.cell (i := 0) rfl)
            have q1 := Dr.cell0 (hS2.cell (i := 1) rfl)
            have q2 := Dr.cell0 (hS2.cell (i := 2) rfl)
            have q3 := Dr.cell0 (hS2.cell (i := 3) rfl)
            have q4 := Dr.cell0 (hS2.cell (i := 4) rfl)
            have q5 := Dr.cell0 (hS2.cell (i := 5) rfl)
            have q6 := Dr.cell0 (hS2.cell (i := 6) rfl)
            have p0 := Dr.cell0 (hP2.cell (i := 0) rfl)
            have p1 := Dr.cell0 (hP2.cell (i := 1) rfl)
            have p2 := Dr.cell0 (hP2.cell (i := 2) rfl)
            have p3 := Dr.cell0 (hP2.cell (i := 3) rfl)
            have p4 := Dr.cell0 (hP2.cell (i := 4) rfl)
            have p5 := Dr.cell0 (hP2.cell (i := 5) rfl)
            have p6 := Dr.cell0 (hP2.cell (i := 6) rfl)
            have p7 := Dr.cell0 (hP2.cell (i := 7) rfl)
            have p8 := Dr.cell0 (hP2.cell (i := 8) rfl)
            refine Dr.plan_q (l := [_, _]) rfl (fun K hK => ?_)
            iterate 2 (go_big_quiet_step (fail))
            refine wpQuiet_nil (hK _ ?_); clear hK K
            clear q0 q1 q2 q3 q4 q5 q6 p0 p1 p2 p3 p4 p5 p6 p7 p8
            have CC := Lib.hid (CE.out V2 hb2 hP2)
            try unfold shV plV at CC
            refine Dr.plan_e rfl (by rfl) (fun K hK => ?_)
            go_wp2_with fail
            refine CC.out.mono ?_; rintro e V3 ⟨rfl, hx3⟩
            refine hK _ _ (.of hx3) ?_; clear hK K CC
            have hb3 := hb2.trans (hx3.mono hb2.size)
            have hS3 := hS2.ext hx3
            have hP3 := hP2.ext hx3
            have hA3 := hA2.ext hx3
            clear hx3 hb2 hS2 hP2 hA2
            have q0 := Dr.cell0 (hS3.cell (i := 0) rfl)
            have q1 := Dr.cell0 (hS3.cell (i := 1) rfl)
            have q2 := Dr.cell0 (hS3.cell (i := 2) rfl)
            have q3 := Dr.cell0 (hS3.cell (i := 3) rfl)
            have q4 := Dr.cell0 (hS3.cell (i := 4) rfl)
            have q5 := Dr.cell0 (hS3.cell (i := 5) rfl)
            have q6 := Dr.cell0 (hS3.cell (i := 6) rfl)
            have p0 := Dr.cell0 (hP3.cell (i := 0) rfl)
            have p1 := Dr.cell0 (hP3.cell (i := 1) rfl)
            have p2 := Dr.cell0 (hP3.cell (i := 2) rfl)
            have p3 := Dr.cell0 (hP3.cell (i := 3) rfl)
            have p4 := Dr.cell0 (hP3.cell (i := 4) rfl)
            have p5 := Dr.cell0 (hP3.cell (i := 5) rfl)
            have p6 := Dr.cell0 (hP3.cell (i := 6) rfl)
            have p7 := Dr.cell0 (hP3.cell (i := 7) rfl)
            have p8 := Dr.cell0 (hP3.cell (i := 8) rfl)
            refine Dr.plan_q (l := [_]) rfl (fun K hK => ?_)
            iterate 1 (go_big_quiet_step (fail))
            refine wpQuiet_nil (hK _ ?_); clear hK K
            clear q0 q1 q2 q3 q4 q5 q6 p0 p1 p2 p3 p4 p5 p6 p7 p8
            have z0 : V3.cell? ⟨V1.heap.size, 0, none⟩ = _ := hA3.cell (i := 0) rfl
            have z1 : V3.cell? ⟨V1.heap.size, 1, none⟩ = _ := hA3.cell (i := 1) rfl
            have z2 : V3.cell? ⟨V1.heap.size, 2, none⟩ = _ := hA3.cell (i := 2) rfl
            have z3 : V3.cell? ⟨V1.heap.size, 3, none⟩ = _ := hA3.cell (i := 3) rfl
            have f0 := hA3.free 0
            have f1 := hA3.free 1
            have f2 := hA3.free 2
            have f3 := hA3.free 3
            refine Dr.plan_done (tl := [_]) rfl ?_
            go_wp2
            have e1 : puts V3 V1.heap.size 0 [.bool false, .bool false, .bool false, .bool bE] = ((((V3.setCell ⟨V1.heap.size, 0, none⟩ (.bool false)).setCell ⟨V1.heap.size, 1, none⟩ (.bool false)).setCell ⟨V1.heap.size, 2, none⟩ (.bool false)).setCell ⟨V1.heap.size, 3, none⟩ (.bool bE)) := rfl
            have r1 := hA3.put_eq [.bool false, .bool false, .bool false, .bool bE] e1 rfl
            have b1 := bel_put_eq [.bool false, .bool false, .bool false, .bool bE] e1
            have hbf := hb3.trans (Dr.Bel.old (n := w.heap.size) b1 (hb3.size) (by simpa using hAg))
            clear e1 b1 z0 z1 z2 z3 f0 f1 f2 f3
            generalize ((((V3.setCell ⟨V1.heap.size, 0, none⟩ (.bool false)).setCell ⟨V1.heap.size, 1, none⟩ (.bool false)).setCell ⟨V1.heap.size, 2, none⟩ (.bool false)).setCell ⟨V1.heap.size, 3, none⟩ (.bool bE)) = Vf at *
            go_meet
            case rel => exact ⟨_, rfl, r1, hbf⟩
        · refine Dr.plan_e rfl (by rfl) (fun K hK => ?_)
          go_wp2_with fail
          refine hK _ _ (.of (ext_alloc _ _)) ?_; clear hK K
          have hx2 := ext_alloc V1 (.cells #[.bool false, .bool false, .bool false, .bool false] 131)
          have hA2 := Blk.new V1 131 [.bool false, .bool false, .bool false, .bool false]
          have hAg := hb1.size
          have hb2 := hb1.trans (hx2.mono hb1.size)
          have hS2 := hS1.ext hx2
          have hP2 := hP1.ext hx2
          change Blk (V1.alloc (.cells #[.bool false, .bool false, .bool false, .bool false] 131)) _ _ _ at hA2
          generalize V1.alloc (.cells #[.bool false, .bool false, .bool false, .bool false] 131) = V2 at *
          clear hx2 hb1 hS1 hP1
          refine Dr.plan_e_skip rfl (by rfl) ?_; go_frame
          have q0 := Dr.cell0 (hS2.cell (i := 0) rfl)
          have q1 := Dr.cell0 (hS2.cell (i := 1) rfl)
          have q2 := Dr.cell0 (hS2.cell (i := 2) rfl)
          have q3 := Dr.cell0 (hS2.cell (i := 3) rfl)
          have q4 := Dr.cell0 (hS2.cell (i := 4) rfl)
          have q5 := Dr.cell0 (hS2.cell (i := 5) rfl)
          have q6 := Dr.cell0 (hS2.cell (i := 6) rfl)
          have p0 := Dr.cell0 (hP2.cell (i := 0) rfl)
          have p1 := Dr.cell0 (hP2.cell (i := 1) rfl)
          have p2 := Dr.cell0 (hP2.cell (i := 2) rfl)
          have p3 := Dr.cell0 (hP2.cell (i := 3) rfl)
          have p4 := Dr.cell0 (hP2.cell (i := 4) rfl)
          have p5 := Dr.cell0 (hP2.cell (i := 5) rfl)
          have p6 := Dr.cell0 (hP2.cell (i := 6) rfl)
          have p7 := Dr.cell0 (hP2.cell (i := 7) rfl)
          have p8 := Dr.cell0 (hP2.cell (i := 8) rfl)
          refine Dr.plan_q (l := [_, _, _, _, _, _, _, _, _, _, _]) rfl (fun K hK => ?_)
          iterate 11 (go_big_quiet_step (fail))
          refine wpQuiet_nil (hK _ ?_); clear hK K
          clear q0 q1 q2 q3 q4 q5 q6 p0 p1 p2 p3 p4 p5 p6 p7 p8
          refine Dr.plan_e_skip rfl (by rfl) ?_; go_frame
          have q0 := Dr.cell0 (hS2.cell (i := 0) rfl)
          have q1 := Dr.cell0 (hS2.cell (i := 1) rfl)
          have q2 := Dr.cell0 (hS2.cell (i := 2) rfl)
          have q3 := Dr.cell0 (hS2.cell (i := 3) rfl)
          have q4 := Dr.cell0 (hS2.cell (i := 4) rfl)
          have q5 := Dr.cell0 (hS2.cell (i := 5) rfl)
          have q6 := Dr.cell0 (hS2.cell (i := 6) rfl)
          have p0 := Dr.cell0 (hP2.cell (i := 0) rfl)
          have p1 := Dr.cell0 (hP2.cell (i := 1) rfl)
          have p2 := Dr.cell0 (hP2.cell (i := 2) rfl)
          have p3 := Dr.cell0 (hP2.cell (i := 3) rfl)
          have p4 := Dr.cell0 (hP2.cell (i := 4) rfl)
          have p5 := Dr.cell0 (hP2.cell (i := 5) rfl)
          have p6 := Dr.cell0 (hP2.cell (i := 6) rfl)
          have p7 := Dr.cell0 (hP2.cell (i := 7) rfl)
          have p8 := Dr.cell0 (hP2.cell (i := 8) rfl)
          refine Dr.plan_q (l := [_, _]) rfl (fun K hK => ?_)
          iterate 2 (go_big_quiet_step (fail))
          refine wpQuiet_nil (hK _ ?_); clear hK K
          clear q0 q1 q2 q3 q4 q5 q6 p0 p1 p2 p3 p4 p5 p6 p7 p8
          have CC := Lib.hid (CE.out V2 hb2 hP2)
          try unfold shV plV at CC
          refine Dr.plan_e rfl (by rfl) (fun K hK => ?_)
          go_wp2_with fail
          refine CC.out.mono ?_; rintro e V3 ⟨rfl, hx3⟩
          refine hK _ _ (.of hx3) ?_; clear hK K CC
          have hb3 := hb2.trans (hx3.mono hb2.size)
          have hS3 := hS2.ext hx3
          have hP3 := hP2.ext hx3
          have hA3 := hA2.ext hx3
          clear hx3 hb2 hS2 hP2 hA2
          have q0 := Dr.cell0 (hS3.cell (i := 0) rfl)
          have q1 := Dr.cell0 (hS3.cell (i := 1) rfl)
          have q2 := Dr.cell0 (hS3.cell (i := 2) rfl)
          have q3 := Dr.cell0 (hS3.cell (i := 3) rfl)
          have q4 := Dr.cell0 (hS3.cell (i := 4) rfl)
          have q5 := Dr.cell0 (hS3.cell (i := 5) rfl)
          have q6 := Dr.cell0 (hS3.cell (i := 6) rfl)
          have p0 := Dr.cell0 (hP3.cell (i := 0) rfl)
          have p1 := Dr.cell0 (hP3.cell (i := 1) rfl)
          have p2 := Dr.cell0 (hP3.cell (i := 2) rfl)
          have p3 := Dr.cell0 (hP3.cell (i := 3) rfl)
          have p4 := Dr.cell0 (hP3.cell (i := 4) rfl)
          have p5 := Dr.cell0 (hP3.cell (i := 5) rfl)
          have p6 := Dr.cell0 (hP3.cell (i := 6) rfl)
          have p7 := Dr.cell0 (hP3.cell (i := 7) rfl)
          have p8 := Dr.cell0 (hP3.cell (i := 8) rfl)
          refine Dr.plan_q (l := [_]) rfl (fun K hK => ?_)
          iterate 1 (go_big_quiet_step (fail))
          refine wpQuiet_nil (hK _ ?_); clear hK K
          clear q0 q1 q2 q3 q4 q5 q6 p0 p1 p2 p3 p4 p5 p6 p7 p8
          have z0 : V3.cell? ⟨V1.heap.size, 0, none⟩ = _ := hA3.cell (i := 0) rfl
          have z1 : V3.cell? ⟨V1.heap.size, 1, none⟩ = _ := hA3.cell (i := 1) rfl
          have z2 : V3.cell? ⟨V1.heap.size, 2, none⟩ = _ := hA3.cell (i := 2) rfl
          have z3 : V3.cell? ⟨V1.heap.size, 3, none⟩ = _ := hA3.cell (i := 3) rfl
          have f0 := hA3.free 0
          have f1 := hA3.free 1
          have f2 := hA3.free 2
          have f3 := hA3.free 3
          refine Dr.plan_done (tl := [_]) rfl ?_
          go_wp2
          have e1 : puts V3 V1.heap.size 0 [.bool false, .bool false, .bool false, .bool bE] = ((((V3.setCell ⟨V1.heap.size, 0, none⟩ (.bool false)).setCell ⟨V1.heap.size, 1, none⟩ (.bool false)).setCell ⟨V1.heap.size, 2, none⟩ (.bool false)).setCell ⟨V1.heap.size, 3, none⟩ (.bool bE)) := rfl
          have r1 := hA3.put_eq [.bool false, .bool false, .bool false, .bool bE] e1 rfl
          have b1 := bel_put_eq [.bool false, .bool false, .bool false, .bool bE] e1
          have hbf := hb3.trans (Dr.Bel.old (n := w.heap.size) b1 (hb3.size) (by simpa using hAg))
          clear e1 b1 z0 z1 z2 z3 f0 f1 f2 f3
          generalize ((((V3.setCell ⟨V1.heap.size, 0, none⟩ (.bool false)).setCell ⟨V1.heap.size, 1, none⟩ (.bool false)).setCell ⟨V1.heap.size, 2, none⟩ (.bool false)).setCell ⟨V1.heap.size, 3, none⟩ (.bool bE)) = Vf at *
          go_meet
          case rel => exact ⟨_, rfl, r1, hbf⟩
      · refine Dr.plan_e rfl (by rfl) (fun K hK => ?_)
        go_wp2_with fail
        refine hK _ _ (.of (ext_alloc _ _)) ?_; clear hK K
        have hx2 := ext_alloc V1 (.cells #[.bool false, .bool false, .bool false, .bool false] 131)
        have hA2 := Blk.new V1 131 [.bool false, .bool false, .bool false, .bool false]
        have hAg := hb1.size
        have hb2 := hb1.trans (hx2.mono hb1.size)
        have hS2 := hS1.ext hx2
        have hP2 := hP1.ext hx2
        change Blk (V1.alloc (.cells #[.bool false, .bool false, .bool false, .bool false] 131)) _ _ _ at hA2
        generalize V1.alloc (.cells #[.bool false, .bool false, .bool false, .bool false] 131) = V2 at *
        clear hx2 hb1 hS1 hP1
        refine Dr.plan_e_skip rfl (by rfl) ?_; go_frame
        have q0 := Dr.cell0 (hS2.cell (i := 0) rfl)
        have q1 := Dr.cell0 (hS2.cell (i := 1) rfl)
        have q2 := Dr.cell0 (hS2.cell (i := 2) rfl)
        have q3 := Dr.cell0 (hS2.cell (i := 3) rfl)
        have q4 := Dr.cell0 (hS2.cell (i := 4) rfl)
        have q5 := Dr.cell0 (hS2.cell (i := 5) rfl)
        have q6 := Dr.cell0 (hS2.cell (i := 6) rfl)
        have p0 := Dr.cell0 (hP2.cell (i := 0) rfl)
        have p1 := Dr.cell0 (hP2.cell (i := 1) rfl)
        have p2 := Dr.cell0 (hP2.cell (i := 2) rfl)
        have p3 := Dr.cell0 (hP2.cell (i := 3) rfl)
        have p4 := Dr.cell0 (hP2.cell (i := 4) rfl)
        have p5 := Dr.cell0 (hP2.cell (i := 5) rfl)
        have p6 := Dr.cell0 (hP2.cell (i := 6) rfl)
        have p7 := Dr.cell0 (hP2.cell (i := 7) rfl)
        have p8 := Dr.cell0 (hP2.cell (i := 8) rfl)
        refine Dr.plan_q (l := [_, _, _, _, _, _, _]) rfl (fun K hK => ?_)
        iterate 7 (go_big_quiet_step (fail))
        refine wpQuiet_nil (hK _ ?_); clear hK K
        clear q0 q1 q2 q3 q4 q5 q6 p0 p1 p2 p3 p4 p5 p6 p7 p8
        refine Dr.plan_e_skip rfl (by rfl) ?_; go_frame
        have q0 := Dr.cell0 (hS2.cell (i := 0) rfl)
        have q1 := Dr.cell0 (hS2.cell (i := 1) rfl)
        have q2 := Dr.cell0 (hS2.cell (i := 2) rfl)
        have q3 := Dr.cell0 (hS2.cell (i := 3) rfl)
        have q4 := Dr.cell0 (hS2.cell (i := 4) rfl)
        have q5 := Dr.cell0 (hS2.cell (i := 5) rfl)
        have q6 := Dr.cell0 (hS2.cell (i := 6) rfl)
        have p0 := Dr.cell0 (hP2.cell (i := 0) rfl)
        have p1 := Dr.cell0 (hP2.cell (i := 1) rfl)
        have p2 := Dr.cell0 (hP2.cell (i := 2) rfl)
        have p3 := Dr.cell0 (hP2.cell (i := 3) rfl)
        have p4 := Dr.cell0 (hP2.cell (i := 4) rfl)
        have p5 := Dr.cell0 (hP2.cell (i := 5) rfl)
        have p6 := Dr.cell0 (hP2.cell (i := 6) rfl)
        have p7 := Dr.cell0 (hP2.cell (i := 7) rfl)
        have p8 := Dr.cell0 (hP2.cell (i := 8) rfl)
        refine Dr.plan_q (l := [_, _, _, _, _, _, _, _, _, _, _]) rfl (fun K hK => ?_)
        iterate 11 (go_big_quiet_step (fail))
        refine wpQuiet_nil (hK _ ?_); clear hK K
        clear q0 q1 q2 q3 q4 q5 q6 p0 p1 p2 p3 p4 p5 p6 p7 p8
        refine Dr.plan_e_skip rfl (by rfl) ?_; go_frame
        have q0 := Dr.cell0 (hS2.cell (i := 0) rfl)
        have q1 := Dr.cell0 (hS2.cell (i := 1) rfl)
        have q2 := Dr.cell0 (hS2.cell (i := 2) rfl)
        have q3 := Dr.cell0 (hS2.cell (i := 3) rfl)
        have q4 := Dr.cell0 (hS2.cell (i := 4) rfl)
        have q5 := Dr.cell0 (hS2.cell (i := 5) rfl)
        have q6 := Dr.cell0 (hS2.cell (i := 6) rfl)
        have p0 := Dr.cell0 (hP2.cell (i := 0) rfl)
        have p1 := Dr.cell0 (hP2.cell (i := 1) rfl)
        have p2 := Dr.cell0 (hP2.cell (i := 2) rfl)
        have p3 := Dr.cell0 (hP2.cell (i := 3) rfl)
        have p4 := Dr.cell0 (hP2.cell (i := 4) rfl)
        have p5 := Dr.cell0 (hP2.cell (i := 5) rfl)
        have p6 := Dr.cell0 (hP2.cell (i := 6) rfl)
        have p7 := Dr.cell0 (hP2.cell (i := 7) rfl)
        have p8 := Dr.cell0 (hP2.cell (i := 8) rfl)
        refine Dr.plan_q (l := [_, _]) rfl (fun K hK => ?_)
        iterate 2 (go_big_quiet_step (fail))
        refine wpQuiet_nil (hK _ ?_); clear hK K
        clear q0 q1 q2 q3 q4 q5 q6 p0 p1 p2 p3 p4 p5 p6 p7 p8
        have CC := Lib.hid (CE.out V2 hb2 hP2)
        try unfold shV plV at CC
        refine Dr.plan_e rfl (by rfl) (fun K hK => ?_)
        go_wp2_with fail
        refine CC.out.mono ?_; rintro e V3 ⟨rfl, hx3⟩
        refine hK _ _ (.of hx3) ?_; clear hK K CC
        have hb3 := hb2.trans (hx3.mono hb2.size)
        have hS3 := hS2.ext hx3
        have hP3 := hP2.ext hx3
        have hA3 := hA2.ext hx3
        clear hx3 hb2 hS2 hP2 hA2
        have q0 := Dr.cell0 (hS3.cell (i := 0) rfl)
        have q1 := Dr.cell0 (hS3.cell (i := 1) rfl)
        have q2 := Dr.cell0 (hS3.cell (i := 2) rfl)
        have q3 := Dr.cell0 (hS3.cell (i := 3) rfl)
        have q4 := Dr.cell0 (hS3.cell (i := 4) rfl)
        have q5 := Dr.cell0 (hS3.cell (i := 5) rfl)
        have q6 := Dr.cell0 (hS3.cell (i := 6) rfl)
        have p0 := Dr.cell0 (hP3.cell (i := 0) rfl)
        have p1 := Dr.cell0 (hP3.cell (i := 1) rfl)
        have p2 := Dr.cell0 (hP3.cell (i := 2) rfl)
        have p3 := Dr.cell0 (hP3.cell (i := 3) rfl)
        have p4 := Dr.cell0 (hP3.cell (i := 4) rfl)
        have p5 := Dr.cell0 (hP3.cell (i := 5) rfl)
        have p6 := Dr.cell0 (hP3.cell (i := 6) rfl)
        have p7 := Dr.cell0 (hP3.cell (i := 7) rfl)
        have p8 := Dr.cell0 (hP3.cell (i := 8) rfl)
        refine Dr.plan_q (l := [_]) rfl (fun K hK => ?_)
        iterate 1 (go_big_quiet_step (fail))
        refine wpQuiet_nil (hK _ ?_); clear hK K
        clear q0 q1 q2 q3 q4 q5 q6 p0 p1 p2 p3 p4 p5 p6 p7 p8
        have z0 : V3.cell? ⟨V1.heap.size, 0, none⟩ = _ := hA3.cell (i := 0) rfl
        have z1 : V3.cell? ⟨V1.heap.size, 1, none⟩ = _ := hA3.cell (i := 1) rfl
        have z2 : V3.cell? ⟨V1.heap.size, 2, none⟩ = _ := hA3.cell (i := 2) rfl
        have z3 : V3.cell? ⟨V1.heap.size, 3, none⟩ = _ := hA3.cell (i := 3) rfl
        have f0 := hA3.free 0
        have f1 := hA3.free 1
        have f2 := hA3.free 2
        have f3 := hA3.free 3
        refine Dr.plan_done (tl := [_]) rfl ?_
        go_wp2
        have e1 : puts V3 V1.heap.size 0 [.bool false, .bool false, .bool false, .bool bE] = ((((V3.setCell ⟨V1.heap.size, 0, none⟩ (.bool false)).setCell ⟨V1.heap.size, 1, none⟩ (.bool false)).setCell ⟨V1.heap.size, 2, none⟩ (.bool false)).setCell ⟨V1.heap.size, 3, none⟩ (.bool bE)) := rfl
        have r1 := hA3.put_eq [.bool false, .bool false, .bool false, .bool bE] e1 rfl
        have b1 := bel_put_eq [.bool false, .bool false, .bool false, .bool bE] e1
        have hbf := hb3.trans (Dr.Bel.old (n := w.heap.size) b1 (hb3.size) (by simpa using hAg))
        clear e1 b1 z0 z1 z2 z3 f0 f1 f2 f3
        generalize ((((V3.setCell ⟨V1.heap.size, 0, none⟩ (.bool false)).setCell ⟨V1.heap.size, 1, none⟩ (.bool false)).setCell ⟨V1.heap.size, 2, none⟩ (.bool false)).setCell ⟨V1.heap.size, 3, none⟩ (.bool bE)) = Vf at *
        go_meet
        case rel => exact ⟨_, rfl, r1, hbf⟩
    · have hCL := CL.out k hk rfl
      have hCT := CT.out k hk 0
      have hk0 : (0 : Int) ≤ (k : Int) := by omega
      have hdk : decide ((0 : Int) ≤ (k : Int)) = true := by simp
      rw [hdk, Bool.true_and] at hL
      rw [hdk, Bool.true_and] at hT
      rw [Int.toNat_natCast] at hL hT
      rw [hL] at hCL
      have HCL := Lib.hid hCL
      cases h1 : s.tired k i 0
      · rw [h1] at hCT hT
        have HCT := Lib.hid hCT
        rw [Bool.false_or] at hT
        rcases hl with rfl | ⟨j, hj, rfl⟩
        · rw [show decide ((0 : Int) ≤ -1) = false by simp, Bool.false_and] at hT
          subst hT
          clear hL hCL hCT CL CT h1 hdk
          have q0 := Dr.cell0 (hS1.cell (i := 0) rfl)
          have q1 := Dr.cell0 (hS1.cell (i := 1) rfl)
          have q2 := Dr.cell0 (hS1.cell (i := 2) rfl)
          have q3 := Dr.cell0 (hS1.cell (i := 3) rfl)
          have q4 := Dr.cell0 (hS1.cell (i := 4) rfl)
          have q5 := Dr.cell0 (hS1.cell (i := 5) rfl)
          have q6 := Dr.cell0 (hS1.cell (i := 6) rfl)
          have p0 := Dr.cell0 (hP1.cell (i := 0) rfl)
          have p1 := Dr.cell0 (hP1.cell (i := 1) rfl)
          have p2 := Dr.cell0 (hP1.cell (i := 2) rfl)
          have p3 := Dr.cell0 (hP1.cell (i := 3) rfl)
          have p4 := Dr.cell0 (hP1.cell (i := 4) rfl)
          have p5 := Dr.cell0 (hP1.cell (i := 5) rfl)
          have p6 := Dr.cell0 (hP1.cell (i := 6) rfl)
          have p7 := Dr.cell0 (hP1.cell (i := 7) rfl)
          have p8 := Dr.cell0 (hP1.cell (i := 8) rfl)
          refine Dr.plan_q (l := [_, _, _, _, _, _, _, _, _, _, _, _]) rfl (fun K hK => ?_)
          iterate 12 (go_big_quiet_step (fail))
          refine wpQuiet_nil (hK _ ?_); clear hK K
          clear q0 q1 q2 q3 q4 q5 q6 p0 p1 p2 p3 p4 p5 p6 p7 p8
          refine Dr.plan_e2 ?_ ?_
          · have CC := Lib.hid (HCL.out V1 hb1)
            try unfold shV plV at CC
            refine Dr.plan_e rfl (by rfl) (fun K hK => ?_)
            go_wp2_with fail
            refine CC.out.mono ?_; rintro e V2 ⟨rfl, hx2⟩
            refine hK _ _ (.of hx2) ?_; clear hK K CC
            have hb2 := hb1.trans (hx2.mono hb1.size)
            have hS2 := hS1.ext hx2
            have hP2 := hP1.ext hx2
            clear hx2 hb1 hS1 hP1
            have q0 := Dr.cell0 (hS2.cell (i := 0) rfl)
            have q1 := Dr.cell0 (hS2.cell (i := 1) rfl)
            have q2 := Dr.cell0 (hS2.cell (i := 2) rfl)
            have q3 := Dr.cell0 (hS2.cell (i := 3) rfl)
            have q4 := Dr.cell0 (hS2.cell (i := 4) rfl)
            have q5 := Dr.cell0 (hS2.cell (i := 5) rfl)
            have q6 := Dr.cell0 (hS2.cell (i := 6) rfl)
            have p0 := Dr.cell0 (hP2.cell (i := 0) rfl)
            have p1 := Dr.cell0 (hP2.cell (i := 1) rfl)
            have p2 := Dr.cell0 (hP2.cell (i := 2) rfl)
            have p3 := Dr.cell0 (hP2.cell (i := 3) rfl)
            have p4 := Dr.cell0 (hP2.cell (i := 4) rfl)
            have p5 := Dr.cell0 (hP2.cell (i := 5) rfl)
            have p6 := Dr.cell0 (hP2.cell (i := 6) rfl)
            have p7 := Dr.cell0 (hP2.cell (i := 7) rfl)
            have p8 := Dr.cell0 (hP2.cell (i := 8) rfl)
            refine Dr.plan_q (l := [_, _, _, _, _, _, _]) rfl (fun K hK => ?_)
            iterate 7 (go_big_quiet_step (fail))
            refine wpQuiet_nil (hK _ ?_); clear hK K
            clear q0 q1 q2 q3 q4 q5 q6 p0 p1 p2 p3 p4 p5 p6 p7 p8
            refine Dr.plan_e2 ?_ ?_
            · have CC := Lib.hid (HCT.out V2 hb2)
              try unfold shV plV at CC
              refine Dr.plan_e rfl (by rfl) (fun K hK => ?_)
              go_wp2_with fail
              refine CC.out.mono ?_; rintro e V3 ⟨rfl, hx3⟩
              refine hK _ _ (.of hx3) ?_; clear hK K CC
              have hb3 := hb2.trans (hx3.mono hb2.size)
              have hS3 := hS2.ext hx3
              have hP3 := hP2.ext hx3
              clear hx3 hb2 hS2 hP2
              have q0 := Dr.cell0 (hS3.cell (i := 0) rfl)
              have q1 := Dr.cell0 (hS3.cell (i := 1) rfl)
              have q2 := Dr.cell0 (hS3.cell (i := 2) rfl)
              have q3 := Dr.cell0 (hS3.cell (i := 3) rfl)
              have q4 := Dr.cell0 (hS3.cell (i := 4) rfl)
              have q5 := Dr.cell0 (hS3.cell (i := 5) rfl)
              have q6 := Dr.cell0 (hS3.cell (i := 6) rfl)
              have p0 := Dr.cell0 (hP3.cell (i := 0) rfl)
              have p1 := Dr.cell0 (hP3.cell (i := 1) rfl)
              have p2 := Dr.cell0 (hP3.cell (i := 2) rfl)
              have p3 := Dr.cell0 (hP3.cell (i := 3) rfl)
              have p4 := Dr.cell0 (hP3.cell (i := 4) rfl)
              have p5 := Dr.cell0 (hP3.cell (i := 5) rfl)
              have p6 := Dr.cell0 (hP3.cell (i := 6) rfl)
              have p7 := Dr.cell0 (hP3.cell (i := 7) rfl)
              have p8 := Dr.cell0 (hP3.cell (i := 8) rfl)
              refine Dr.plan_q (l := [_, _, _, _, _, _, _, _, _, _, _]) rfl (fun K hK => ?_)
              iterate 11 (go_big_quiet_step (fail))
              refine wpQuiet_nil (hK _ ?_); clear hK K
              clear q0 q1 q2 q3 q4 q5 q6 p0 p1 p2 p3 p4 p5 p6 p7 p8
              refine Dr.plan_e2 ?_ ?_
              · refine Dr.plan_e_skip rfl (by rfl) ?_; go_frame
                have q0 := Dr.cell0 (hS3.cell (i := 0) rfl)
                have q1 := Dr.cell0 (hS3.cell (i := 1) rfl)
                have q2 := Dr.cell0 (hS3.cell (i := 2) rfl)
                have q3 := Dr.cell0 (hS3.cell (i := 3) rfl)
                have q4 := Dr.cell0 (hS3.cell (i := 4) rfl)
                have q5 := Dr.cell0 (hS3.cell (i := 5) rfl)
                have q6 := Dr.cell0 (hS3.cell (i := 6) rfl)
                have p0 := Dr.cell0 (hP3.cell (i := 0) rfl)
                have p1 := Dr.cell0 (hP3.cell (i := 1) rfl)
                have p2 := Dr.cell0 (hP3.cell (i := 2) rfl)
                have p3 := Dr.cell0 (hP3.cell (i := 3) rfl)
                have p4 := Dr.cell0 (hP3.cell (i := 4) rfl)
                have p5 := Dr.cell0 (hP3.cell (i := 5) rfl)
                have p6 := Dr.cell0 (hP3.cell (i := 6) rfl)
                have p7 := Dr.cell0 (hP3.cell (i := 7) rfl)
                have p8 := Dr.cell0 (hP3.cell (i := 8) rfl)
                refine Dr.plan_q (l := [_, _]) rfl (fun K hK => ?_)
                iterate 2 (go_big_quiet_step (fail))
                refine wpQuiet_nil (hK _ ?_); clear hK K
                clear q0 q1 q2 q3 q4 q5 q6 p0 p1 p2 p3 p4 p5 p6 p7 p8
                refine Dr.plan_e2 ?_ ?_
                · have CC := Lib.hid (CE.out V3 hb3 hP3)
                  try unfold shV plV at CC
                  refine Dr.plan_e rfl (by rfl) (fun K hK => ?_)
                  go_wp2_with fail
                  refine CC.out.mono ?_; rintro e V4 ⟨rfl, hx4⟩
                  refine hK _ _ (.of hx4) ?_; clear hK K CC
                  have hb4 := hb3.trans (hx4.mono hb3.size)
                  have hS4 := hS3.ext hx4
                  have hP4 := hP3.ext hx4
                  clear hx4 hb3 hS3 hP3
                  have q0 := Dr.cell0 (hS4.cell (i := 0) rfl)
                  have q1 := Dr.cell0 (hS4.cell (i := 1) rfl)
                  have q2 := Dr.cell0 (hS4.cell (i := 2) rfl)
                  have q3 := Dr.cell0 (hS4.cell (i := 3) rfl)
                  have q4 := Dr.cell0 (hS4.cell (i := 4) rfl)
                  have q5 := Dr.cell0 (hS4.cell (i := 5) rfl)
                  have q6 := Dr.cell0 (hS4.cell (i := 6) rfl)
                  have p0 := Dr.cell0 (hP4.cell (i := 0) rfl)
                  have p1 := Dr.cell0 (hP4.cell (i := 1) rfl)
                  have p2 := Dr.cell0 (hP4.cell (i := 2) rfl)
                  have p3 := Dr.cell0 (hP4.cell (i := 3) rfl)
                  have p4 := Dr.cell0 (hP4.cell (i := 4) rfl)
                  have p5 := Dr.cell0 (hP4.cell (i := 5) rfl)
                  have p6 := Dr.cell0 (hP4.cell (i := 6) rfl)
                  have p7 := Dr.cell0 (hP4.cell (i := 7) rfl)
                  have p8 := Dr.cell0 (hP4.cell (i := 8) rfl)
                  refine Dr.plan_q (l := [_]) rfl (fun K hK => ?_)
                  iterate 1 (go_big_quiet_step (fail))
                  refine wpQuiet_nil (hK _ ?_); clear hK K
                  clear q0 q1 q2 q3 q4 q5 q6 p0 p1 p2 p3 p4 p5 p6 p7 p8
                  refine Dr.plan_e rfl (by rfl) (fun K hK => ?_)
                  go_wp2_with fail
                  refine hK _ _ (.of (ext_alloc _ _)) ?_; clear hK K
                  have hx5 := ext_alloc V4 (.cells #[.bool false, .bool false, .bool false, .bool false] 131)
                  have hA5 := Blk.new V4 131 [.bool false, .bool false, .bool false, .bool false]
                  have hAg := hb4.size
                  have hb5 := hb4.trans (hx5.mono hb4.size)
                  have hS5 := hS4.ext hx5
                  have hP5 := hP4.ext hx5
                  change Blk (V4.alloc (.cells #[.bool false, .bool false, .bool false, .bool false] 131)) _ _ _ at hA5
                  generalize V4.alloc (.cells #[.bool false, .bool false, .bool false, .bool false] 131) = V5 at *
                  clear hx5 hb4 hS4 hP4
                  have z0 : V5.cell? ⟨V4.heap.size, 0, none⟩ = _ := hA5.cell (i := 0) rfl
                  have z1 : V5.cell? ⟨V4.heap.size, 1, none⟩ = _ := hA5.cell (i := 1) rfl
                  have z2 : V5.cell? ⟨V4.heap.size, 2, none⟩ = _ := hA5.cell (i := 2) rfl
                  have z3 : V5.cell? ⟨V4.heap.size, 3, none⟩ = _ := hA5.cell (i := 3) rfl
                  have f0 := hA5.free 0
                  have f1 := hA5.free 1
                  have f2 := hA5.free 2
                  have f3 := hA5.free 3
                  refine Dr.plan_done (tl := [_]) rfl ?_
                  go_wp2
                  have e1 : puts V5 V4.heap.size 0 [.bool false, .bool bL, .bool false, .bool bE] = ((((V5.setCell ⟨V4.heap.size, 0, none⟩ (.bool false)).setCell ⟨V4.heap.size, 1, none⟩ (.bool bL)).setCell ⟨V4.heap.size, 2, none⟩ (.bool false)).setCell ⟨V4.heap.size, 3, none⟩ (.bool bE)) := rfl
                  have r1 := hA5.put_eq [.bool false, .bool bL, .bool false, .bool bE] e1 rfl
                  have b1 := bel_put_eq [.bool false, .bool bL, .bool false, .bool bE] e1
                  have hbf := hb5.trans (Dr.Bel.old (n := w.heap.size) b1 (hb5.size) (by simpa using hAg))
                  clear e1 b1 z0 z1 z2 z3 f0 f1 f2 f3
                  generalize ((((V5.setCell ⟨V4.heap.size, 0, none⟩ (.bool false)).setCell ⟨V4.heap.size, 1, none⟩ (.bool bL)).setCell ⟨V4.heap.size, 2, none⟩ (.bool false)).setCell ⟨V4.heap.size, 3, none⟩ (.bool bE)) = Vf at *
                  go_meet
                  case rel => exact ⟨_, rfl, r1, hbf⟩
                · refine Dr.plan_e rfl (by rfl) (fun K hK => ?_)
                  go_wp2_with fail
                  refine hK _ _ (.of (ext_alloc _ _)) ?_; clear hK K
                  have hx4 := ext_alloc V3 (.cells #[.bool false, .bool false, .bool false, .bool false] 131)
                  have hA4 := Blk.new V3 131 [.bool false, .bool false, .bool false, .bool false]
                  have hAg := hb3.size
                  have hb4 := hb3.trans (hx4.mono hb3.size)
                  have hS4 := hS3.ext hx4
                  have hP4 := hP3.ext hx4
                  change Blk (V3.alloc (.cells #[.bool false, .bool false, .bool false, .bool false] 131)) _ _ _ at hA4
                  generalize V3.alloc (.cells #[.bool false, .bool false, .bool false, .bool false] 131) = V4 at *
                  clear hx4 hb3 hS3 hP3
                  have CC := Lib.hid (CE.out V4 hb4 hP4)
                  try unfold shV plV at CC
                  refine Dr.plan_e rfl (by rfl) (fun K hK => ?_)
                  go_wp2_with fail
                  refine CC.out.mono ?_; rintro e V5 ⟨rfl, hx5⟩
                  refine hK _ _ (.of hx5) ?_; clear hK K CC
                  have hb5 := hb4.trans (hx5.mono hb4.size)
                  have hS5 := hS4.ext hx5
                  have hP5 := hP4.ext hx5
                  have hA5 := hA4.ext hx5
                  clear hx5 hb4 hS4 hP4 hA4
                  have q0 := Dr.cell0 (hS5.cell (i := 0) rfl)
                  have q1 := Dr.cell0 (hS5.cell (i := 1) rfl)
                  have q2 := Dr.cell0 (hS5.cell (i := 2) rfl)
                  have q3 := Dr.cell0 (hS5.cell (i := 3) rfl)
                  have q4 := Dr.cell0 (hS5.cell (i := 4) rfl)
                  have q5 := Dr.cell0 (hS5.cell (i := 5) rfl)
                  have q6 := Dr.cell0 (hS5.cell (i := 6) rfl)
                  have p0 := Dr.cell0 (hP5.cell (i := 0) rfl)
                  have p1 := Dr.cell0 (hP5.cell (i := 1) rfl)
                  have p2 := Dr.cell0 (hP5.cell (i := 2) rfl)
                  have p3 := Dr.cell0 (hP5.cell (i := 3) rfl)
                  have p4 := Dr.cell0 (hP5.cell (i := 4) rfl)
                  have p5 := Dr.cell0 (hP5.cell (i := 5) rfl)
                  have p6 := Dr.cell0 (hP5.cell (i := 6) rfl)
                  have p7 := Dr.cell0 (hP5.cell (i := 7) rfl)
                  have p8 := Dr.cell0 (hP5.cell (i := 8) rfl)
                  refine Dr.plan_q (l := [_]) rfl (fun K hK => ?_)
                  iterate 1 (go_big_quiet_step (fail))
                  refine wpQuiet_nil (hK _ ?_); clear hK K
                  clear q0 q1 q2 q3 q4 q5 q6 p0 p1 p2 p3 p4 p5 p6 p7 p8
                  have z0 : V5.cell? ⟨V3.heap.size, 0, none⟩ = _ := hA5.cell (i := 0) rfl
                  have z1 : V5.cell? ⟨V3.heap.size, 1, none⟩ = _ := hA5.cell (i := 1) rfl
                  have z2 : V5.cell? ⟨V3.heap.size, 2, none⟩ = _ := hA5.cell (i := 2) rfl
                  have z3 : V5.cell? ⟨V3.heap.size, 3, none⟩ = _ := hA5.cell (i := 3) rfl
                  have f0 := hA5.free 0
                  have f1 := hA5.free 1
                  have f2 := hA5.free 2
                  have f3 := hA5.free 3
                  refine Dr.plan_done (tl := [_]) rfl ?_
                  go_wp2
                  have e1 : puts V5 V3.heap.size 0 [.bool false, .bool bL, .bool false, .bool bE] = ((((V5.setCell ⟨V3.heap.size, 0, none⟩ (.bool false)).setCell ⟨V3.heap.size, 1, none⟩ (.bool bL)).setCell ⟨V3.heap.size, 2, none⟩ (.bool false)).setCell ⟨V3.heap.size, 3, none⟩ (.bool bE)) := rfl
                  have r1 := hA5.put_eq [.bool false, .bool bL, .bool false, .bool bE] e1 rfl
                  have b1 := bel_put_eq [.bool false, .bool bL, .bool false, .bool bE] e1
                  have hbf := hb5.trans (Dr.Bel.old (n := w.heap.size) b1 (hb5.size) (by simpa using hAg))
                  clear e1 b1 z0 z1 z2 z3 f0 f1 f2 f3
                  generalize ((((V5.setCell ⟨V3.heap.size, 0, none⟩ (.bool false)).setCell ⟨V3.heap.size, 1, none⟩ (.bool bL)).setCell ⟨V3.heap.size, 2, none⟩ (.bool false)).setCell ⟨V3.heap.size, 3, none⟩ (.bool bE)) = Vf at *
                  go_meet
                  case rel => exact ⟨_, rfl, r1, hbf⟩
              · refine Dr.plan_e rfl (by rfl) (fun K hK => ?_)
                go_wp2_with fail
                refine hK _ _ (.of (ext_alloc _ _)) ?_; clear hK K
                have hx4 := ext_alloc V3 (.cells #[.bool false, .bool false, .bool false, .bool false] 131)
                have hA4 := Blk.new V3 131 [.bool false, .bool false, .bool false, .bool false]
                have hAg := hb3.size
                have hb4 := hb3.trans (hx4.mono hb3.size)
                have hS4 := hS3.ext hx4
                have hP4 := hP3.ext hx4
                change Blk (V3.alloc (.cells #[.bool false, .bool false, .bool false, .bool false] 131)) _ _ _ at hA4
                generalize V3.alloc (.cells #[.bool false, .bool false, .bool false, .bool false] 131) = V4 at *
                clear hx4 hb3 hS3 hP3
                refine Dr.plan_e_skip rfl (by rfl) ?_; go_frame
                have q0 := Dr.cell0 (hS4.cell (i := 0) rfl)
                have q1 := Dr.cell0 (hS4.cell (i := 1) rfl)
                have q2 := Dr.cell0 (hS4.cell (i := 2) rfl)
                have q3 := Dr.cell0 (hS4.cell (i := 3) rfl)
                have q4 := Dr.cell0 (hS4.cell (i := 4) rfl)
                have q5 := Dr.cell0 (hS4.cell (i := 5) rfl)
                have q6 := Dr.cell0 (hS4.cell (i := 6) rfl)
                have p0 := Dr.cell0 (hP4.cell (i := 0) rfl)
                have p1 := Dr.cell0 (hP4.cell (i := 1) rfl)
                have p2 := Dr.cell0 (hP4.cell (i := 2) rfl)
                have p3 := Dr.cell0 (hP4.cell (i := 3) rfl)
                have p4 := Dr.cell0 (hP4.cell (i := 4) rfl)
                have p5 := Dr.cell0 (hP4.cell (i := 5) rfl)
                have p6 := Dr.cell0 (hP4.cell (i := 6) rfl)
                have p7 := Dr.cell0 (hP4.cell (i := 7) rfl)
                have p8 := Dr.cell0 (hP4.cell (i := 8) rfl)
                refine Dr.plan_q (l := [_, _]) rfl (fun K hK => ?_)
                iterate 2 (go_big_quiet_step (fail))
                refine wpQuiet_nil (hK _ ?_); clear hK K
                clear q0 q1 q2 q3 q4 q5 q6 p0 p1 p2 p3 p4 p5 p6 p7 p8
                have CC := Lib.hid (CE.out V4 hb4 hP4)
                try unfold shV plV at CC
                refine Dr.plan_e rfl (by rfl) (fun K hK => ?_)
                go_wp2_with fail
                refine CC.out.mono ?_; rintro e V5 ⟨rfl, hx5⟩
                refine hK _ _ (.of hx5) ?_; clear hK K CC
                have hb5 := hb4.trans (hx5.mono hb4.size)
                have hS5 := hS4.ext hx5
                have hP5 := hP4.ext hx5
                have hA5 := hA4.ext hx5
                clear hx5 hb4 hS4 hP4 hA4
                have q0 := Dr.cell0 (hS5.cell (i := 0) rfl)
                have q1 := Dr.cell0 (hS5.cell (i := 1) rfl)
                have q2 := Dr.cell0 (hS5.cell (i := 2) rfl)
                have q3 := Dr.cell0 (hS5.cell (i := 3) rfl)
                have q4 := Dr.cell0 (hS5.cell (i := 4) rfl)
                have q5 := Dr.cell0 (hS5.cell (i := 5) rfl)
                have q6 := Dr.cell0 (hS5.cell (i := 6) rfl)
                have p0 := Dr.cell0 (hP5.cell (i := 0) rfl)
                have p1 := Dr.cell0 (hP5.cell (i := 1) rfl)
                have p2 := Dr.cell0 (hP5.cell (i := 2) rfl)
                have p3 := Dr.cell0 (hP5.cell (i := 3) rfl)
                have p4 := Dr.cell0 (hP5.cell (i := 4) rfl)
                have p5 := Dr.cell0 (hP5.cell (i := 5) rfl)
                have p6 := Dr.cell0 (hP5.cell (i := 6) rfl)
                have p7 := Dr.cell0 (hP5.cell (i := 7) rfl)
                have p8 := Dr.cell0 (hP5.cell (i := 8) rfl)
                refine Dr.plan_q (l := [_]) rfl (fun K hK => ?_)
                iterate 1 (go_big_quiet_step (fail))
                refine wpQuiet_nil (hK _ ?_); clear hK K
                clear q0 q1 q2 q3 q4 q5 q6 p0 p1 p2 p3 p4 p5 p6 p7 p8
                have z0 : V5.cell? ⟨V3.heap.size, 0, none⟩ = _ := hA5.cell (i := 0) rfl
                have z1 : V5.cell? ⟨V3.heap.size, 1, none⟩ = _ := hA5.cell (i := 1) rfl
                have z2 : V5.cell? ⟨V3.heap.size, 2, none⟩ = _ := hA5.cell (i := 2) rfl
                have z3 : V5.cell? ⟨V3.heap.size, 3, none⟩ = _ := hA5.cell (i := 3) rfl
                have f0 := hA5.free 0
                have f1 := hA5.free 1
                have f2 := hA5.free 2
                have f3 := hA5.free 3
                refine Dr.plan_done (tl := [_]) rfl ?_
                go_wp2
                have e1 : puts V5 V3.heap.size 0 [.bool false, .bool bL, .bool false, .bool bE] = ((((V5.setCell ⟨V3.heap.size, 0, none⟩ (.bool false)).setCell ⟨V3.heap.size, 1, none⟩ (.bool bL)).setCell ⟨V3.heap.size, 2, none⟩ (.bool false)).setCell ⟨V3.heap.size, 3, none⟩ (.bool bE)) := rfl
                have r1 := hA5.put_eq [.bool false, .bool bL, .bool false, .bool bE] e1 rfl
                have b1 := bel_put_eq [.bool false, .bool bL, .bool false, .bool bE] e1
                have hbf := hb5.trans (Dr.Bel.old (n := w.heap.size) b1 (hb5.size) (by simpa using hAg))
                clear e1 b1 z0 z1 z2 z3 f0 f1 f2 f3
                generalize ((((V5.setCell ⟨V3.heap.size, 0, none⟩ (.bool false)).setCell ⟨V3.heap.size, 1, none⟩ (.bool bL)).setCell ⟨V3.heap.size, 2, none⟩ (.bool false)).setCell ⟨V3.heap.size, 3, none⟩ (.bool bE)) = Vf at *
                go_meet
                case rel => exact ⟨_, rfl, r1, hbf⟩
            · refine Dr.plan_e rfl (by rfl) (fun K hK => ?_)
              go_wp2_with fail
              refine hK _ _ (.of (ext_alloc _ _)) ?_; clear hK K
              have hx3 := ext_alloc V2 (.cells #[.bool false, .bool false, .bool false, .bool false] 131)
              have hA3 := Blk.new V2 131 [.bool false, .bool false, .bool false, .bool false]
              have hAg := hb2.size
              have hb3 := hb2.trans (hx3.mono hb2.size)
              have hS3 := hS2.ext hx3
              have hP3 := hP2.ext hx3
              change Blk (V2.alloc (.cells #[.bool false, .bool false, .bool false, .bool false] 131)) _ _ _ at hA3
              generalize V2.alloc (.cells #[.bool false, .bool false, .bool false, .bool false] 131) = V3 at *
              clear hx3 hb2 hS2 hP2
              have CC := Lib.hid (HCT.out V3 hb3)
              try unfold shV plV at CC
              refine Dr.plan_e rfl (by rfl) (fun K hK => ?_)
              go_wp2_with fail
              refine CC.out.mono ?_; rintro e V4 ⟨rfl, hx4⟩
              refine hK _ _ (.of hx4) ?_; clear hK K CC
              have hb4 := hb3.trans (hx4.mono hb3.size)
              have hS4 := hS3.ext hx4
              have hP4 := hP3.ext hx4
              have hA4 := hA3.ext hx4
              clear hx4 hb3 hS3 hP3 hA3
              have q0 := Dr.cell0 (hS4.cell (i := 0) rfl)
              have q1 := Dr.cell0 (hS4.cell (i := 1) rfl)
              have q2 := Dr.cell0 (hS4.cell (i := 2) rfl)
              have q3 := Dr.cell0 (hS4.cell (i := 3) rfl)
              have q4 := Dr.cell0 (hS4.cell (i := 4) rfl)
              have q5 := Dr.cell0 (hS4.cell (i := 5) rfl)
              have q6 := Dr.cell0 (hS4.cell (i := 6) rfl)
              have p0 := Dr.cell0 (hP4.cell (i := 0) rfl)
              have p1 := Dr.cell0 (hP4.cell (i := 1) rfl)
              have p2 := Dr.cell0 (hP4.cell (i := 2) rfl)
              have p3 := Dr.cell0 (hP4.cell (i := 3) rfl)
              have p4 := Dr.cell0 (hP4.cell (i := 4) rfl)
              have p5 := Dr.cell0 (hP4.cell (i := 5) rfl)
              have p6 := Dr.cell0 (hP4.cell (i := 6) rfl)
              have p7 := Dr.cell0 (hP4.cell (i := 7) rfl)
              have p8 := Dr.cell0 (hP4.cell (i := 8) rfl)
              refine Dr.plan_q (l := [_, _, _, _, _, _, _, _, _, _, _]) rfl (fun K hK => ?_)
              iterate 11 (go_big_quiet_step (fail))
              refine wpQuiet_nil (hK _ ?_); clear hK K
              clear q0 q1 q2 q3 q4 q5 q6 p0 p1 p2 p3 p4 p5 p6 p7 p8
              refine Dr.plan_e_skip rfl (by rfl) ?_; go_frame
              have q0 := Dr.cell0 (hS4.cell (i := 0) rfl)
              have q1 := Dr.cell0 (hS4.cell (i := 1) rfl)
              have q2 := Dr.cell0 (hS4.cell (i := 2) rfl)
              have q3 := Dr.cell0 (hS4.cell (i := 3) rfl)
              have q4 := Dr.cell0 (hS4.cell (i := 4) rfl)
              have q5 := Dr.cell0 (hS4.cell (i := 5) rfl)
              have q6 := Dr.cell0 (hS4.cell (i := 6) rfl)
              have p0 := Dr.cell0 (hP4.cell (i := 0) rfl)
              have p1 := Dr.cell0 (hP4.cell (i := 1) rfl)
              have p2 := Dr.cell0 (hP4.cell (i := 2) rfl)
              have p3 := Dr.cell0 (hP4.cell (i := 3) rfl)
              have p4 := Dr.cell0 (hP4.cell (i := 4) rfl)
              have p5 := Dr.cell0 (hP4.cell (i := 5) rfl)
              have p6 := Dr.cell0 (hP4.cell (i := 6) rfl)
              have p7 := Dr.cell0 (hP4.cell (i := 7) rfl)
              have p8 := Dr.cell0 (hP4.cell (i := 8) rfl)
              refine Dr.plan_q (l := [_, _]) rfl (fun K hK => ?_)
              iterate 2 (go_big_quiet_step (fail))
              refine wpQuiet_nil (hK _ ?_); clear hK K
              clear q0 q1 q2 q3 q4 q5 q6 p0 p1 p2 p3 p4 p5 p6 p7 p8
              have CC := Lib.hid (CE.out V4 hb4 hP4)
              try unfold shV plV at CC
              refine Dr.plan_e rfl (by rfl) (fun K hK => ?_)
              go_wp2_with fail
              refine CC.out.mono ?_; rintro e V5 ⟨rfl, hx5⟩
              refine hK _ _ (.of hx5) ?_; clear hK K CC
              have hb5 := hb4.trans (hx5.mono hb4.size)
              have hS5 := hS4.ext hx5
              have hP5 := hP4.ext hx5
              have hA5 := hA4.ext hx5
              clear hx5 hb4 hS4 hP4 hA4
              have q0 := Dr.cell0 (hS5.cell (i := 0) rfl)
              have q1 := Dr.cell0 (hS5.cell (i := 1) rfl)
              have q2 := Dr.cell0 (hS5.cell (i := 2) rfl)
              have q3 := Dr.cell0 (hS5.cell (i := 3) rfl)
              have q4 := Dr.cell0 (hS5.cell (i := 4) rfl)
              have q5 := Dr.cell0 (hS5.cell (i := 5) rfl)
              have q6 := Dr.cell0 (hS5.cell (i := 6) rfl)
              have p0 := Dr.cell0 (hP5.cell (i := 0) rfl)
              have p1 := Dr.cell0 (hP5.cell (i := 1) rfl)
              have p2 := Dr.cell0 (hP5.cell (i := 2) rfl)
              have p3 := Dr.cell0 (hP5.cell (i := 3) rfl)
              have p4 := Dr.cell0 (hP5.cell (i := 4) rfl)
              have p5 := Dr.cell0 (hP5.cell (i := 5) rfl)
              have p6 := Dr.cell0 (hP5.cell (i := 6) rfl)
              have p7 := Dr.cell0 (hP5.cell (i := 7) rfl)
              have p8 := Dr.cell0 (hP5.cell (i := 8) rfl)
              refine Dr.plan_q (l := [_]) rfl (fun K hK => ?_)
              iterate 1 (go_big_quiet_step (fail))
              refine wpQuiet_nil (hK _ ?_); clear hK K
              clear q0 q1 q2 q3 q4 q5 q6 p0 p1 p2 p3 p4 p5 p6 p7 p8
              have z0 : V5.cell? ⟨V2.heap.size, 0, none⟩ = _ := hA5.cell (i := 0) rfl
              have z1 : V5.cell? ⟨V2.heap.size, 1, none⟩ = _ := hA5.cell (i := 1) rfl
              have z2 : V5.cell? ⟨V2.heap.size, 2, none⟩ = _ := hA5.cell (i := 2) rfl
              have z3 : V5.cell? ⟨V2.heap.size, 3, none⟩ = _ := hA5.cell (i := 3) rfl
              have f0 := hA5.free 0
              have f1 := hA5.free 1
              have f2 := hA5.free 2
              have f3 := hA5.free 3
              refine Dr.plan_done (tl := [_]) rfl ?_
              go_wp2
              have e1 : puts V5 V2.heap.size 0 [.bool false, .bool bL, .bool false, .bool bE] = ((((V5.setCell ⟨V2.heap.size, 0, none⟩ (.bool false)).setCell ⟨V2.heap.size, 1, none⟩ (.bool bL)).setCell ⟨V2.heap.size, 2, none⟩ (.bool false)).setCell ⟨V2.heap.size, 3, none⟩ (.bool bE)) := rfl
              have r1 := hA5.put_eq [.bool false, .bool bL, .bool false, .bool bE] e1 rfl
              have b1 := bel_put_eq [.bool false, .bool bL, .bool false, .bool bE] e1
              have hbf := hb5.trans (Dr.Bel.old (n := w.heap.size) b1 (hb5.size) (by simpa using hAg))
              clear e1 b1 z0 z1 z2 z3 f0 f1 f2 f3
              generalize ((((V5.setCell ⟨V2.heap.size, 0, none⟩ (.bool false)).setCell ⟨V2.heap.size, 1, none⟩ (.bool bL)).setCell ⟨V2.heap.size, 2, none⟩ (.bool false)).setCell ⟨V2.heap.size, 3, none⟩ (.bool bE)) = Vf at *
              go_meet
              case rel => exact ⟨_, rfl, r1, hbf⟩
          · refine Dr.plan_e rfl (by rfl) (fun K hK => ?_)
            go_wp2_with fail
            refine hK _ _ (.of (ext_alloc _ _)) ?_; clear hK K
            have hx2 := ext_alloc V1 (.cells #[.bool false, .bool false, .bool false, .bool false] 131)
            have hA2 := Blk.new V1 131 [.bool false, .bool false, .bool false, .bool false]
            have hAg := hb1.size
            have hb2 := hb1.trans (hx2.mono hb1.size)
            have hS2 := hS1.ext hx2
            have hP2 := hP1.ext hx2
            change Blk (V1.alloc (.cells #[.bool false, .bool false, .bool false, .bool false] 131)) _ _ _ at hA2
            generalize V1.alloc (.cells #[.bool false, .bool false, .bool false, .bool false] 131) = V2 at *
            clear hx2 hb1 hS1 hP1
            have CC := Lib.hid (HCL.out V2 hb2)
            try unfold shV plV at CC
            refine Dr.plan_e rfl (by rfl) (fun K hK => ?_)
            go_wp2_with fail
            refine CC.out.mono ?_; rintro e V3 ⟨rfl, hx3⟩
            refine hK _ _ (.of hx3) ?_; clear hK K CC
            have hb3 := hb2.trans (hx3.mono hb2.size)
            have hS3 := hS2.ext hx3
            have hP3 := hP2.ext hx3
            have hA3 := hA2.ext hx3
            clear hx3 hb2 hS2 hP2 hA2
            have q0 := Dr.cell0 (hS3.cell (i := 0) rfl)
            have q1 := Dr.cell0 (hS3.cell (i := 1) rfl)
            have q2 := Dr.cell0 (hS3.cell (i := 2) rfl)
            have q3 := Dr.cell0 (hS3.cell (i := 3) rfl)
            have q4 := Dr.cell0 (hS3.cell (i := 4) rfl)
            have q5 := Dr.cell0 (hS3.cell (i := 5) rfl)
            have q6 := Dr.cell0 (hS3.cell (i := 6) rfl)
            have p0 := Dr.cell0 (hP3.cell (i := 0) rfl)
            have p1 := Dr.cell0 (hP3.cell (i := 1) rfl)
            have p2 := Dr.cell0 (hP3.cell (i := 2) rfl)
            have p3 := Dr.cell0 (hP3.cell (i := 3) rfl)
            have p4 := Dr.cell0 (hP3.cell (i := 4) rfl)
            have p5 := Dr.cell0 (hP3.cell (i := 5) rfl)
            have p6 := Dr.cell0 (hP3.cell (i := 6) rfl)
            have p7 := Dr.cell0 (hP3.cell (i := 7) rfl)
            have p8 := Dr.cell0 (hP3.cell (i := 8) rfl)
            refine Dr.plan_q (l := [_, _, _, _, _, _, _]) rfl (fun K hK => ?_)
            iterate 7 (go_big_quiet_step (fail))
            refine wpQuiet_nil (hK _ ?_); clear hK K
            clear q0 q1 q2 q3 q4 q5 q6 p0 p1 p2 p3 p4 p5 p6 p7 p8
            have CC := Lib.hid (HCT.out V3 hb3)
            try unfold shV plV at CC
            refine Dr.plan_e rfl (by rfl) (fun K hK => ?_)
            go_wp2_with fail
            refine CC.out.mono ?_; rintro e V4 ⟨rfl, hx4⟩
            refine hK _ _ (.of hx4) ?_; clear hK K CC
            have hb4 := hb3.trans (hx4.mono hb3.size)
            have hS4 := hS3.ext hx4
            have hP4 := hP3.ext hx4
            have hA4 := hA3.ext hx4
            clear hx4 hb3 hS3 hP3 hA3
            have q0 := Dr.cell0 (hS4.cell (i := 0) rfl)
            have q1 := Dr.cell0 (hS4.cell (i := 1) rfl)
            have q2 := Dr.cell0 (hS4.cell (i := 2) rfl)
            have q3 := Dr.cell0 (hS4.cell (i := 3) rfl)
            have q4 := Dr.cell0 (hS4.cell (i := 4) rfl)
            have q5 := Dr.cell0 (hS4.cell (i := 5) rfl)
            have q6 := Dr.cell0 (hS4.cell (i := 6) rfl)
            have p0 := Dr.cell0 (hP4.cell (i := 0) rfl)
            have p1 := Dr.cell0 (hP4.cell (i := 1) rfl)
            have p2 := Dr.cell0 (hP4.cell (i := 2) rfl)
            have p3 := Dr.cell0 (hP4.cell (i := 3) rfl)
            have p4 := Dr.cell0 (hP4.cell (i := 4) rfl)
            have p5 := Dr.cell0 (hP4.cell (i := 5) rfl)
            have p6 := Dr.cell0 (hP4.cell (i := 6) rfl)
            have p7 := Dr.cell0 (hP4.cell (i := 7) rfl)
            have p8 := Dr.cell0 (hP4.cell (i := 8) rfl)
            refine Dr.plan_q (l := [_, _, _, _, _, _, _, _, _, _, _]) rfl (fun K hK => ?_)
            iterate 11 (go_big_quiet_step (fail))
            refine wpQuiet_nil (hK _ ?_); clear hK K
            clear q0 q1 q2 q3 q4 q5 q6 p0 p1 p2 p3 p4 p5 p6 p7 p8
            refine Dr.plan_e_skip rfl (by rfl) ?_; go_frame
            have q0 := Dr.cell0 (hS4.cell (i := 0) rfl)
            have q1 := Dr.cell0 (hS4.cell (i := 1) rfl)
            have q2 := Dr.cell0 (hS4.cell (i := 2) rfl)
            have q3 := Dr.cell0 (hS4.cell (i := 3) rfl)
            have q4 := Dr.cell0 (hS4.cell (i := 4) rfl)
            have q5 := Dr.cell0 (hS4.cell (i := 5) rfl)
            have q6 := Dr.cell0 (hS4.cell (i := 6) rfl)
            have p0 := Dr.cell0 (hP4.cell (i := 0) rfl)
            have p1 := Dr.cell0 (hP4.cell (i := 1) rfl)
            have p2 := Dr.cell0 (hP4.cell (i := 2) rfl)
            have p3 := Dr.cell0 (hP4.cell (i := 3) rfl)
            have p4 := Dr.cell0 (hP4.cell (i := 4) rfl)
            have p5 := Dr.cell0 (hP4.cell (i := 5) rfl)
            have p6 := Dr.cell0 (hP4.cell (i := 6) rfl)
            have p7 := Dr.cell0 (hP4.cell (i := 7) rfl)
            have p8 := Dr.cell0 (hP4.cell (i := 8) rfl)
            refine Dr.plan_q (l := [_, _]) rfl (fun K hK => ?_)
            iterate 2 (go_big_quiet_step (fail))
            refine wpQuiet_nil (hK _ ?_); clear hK K
            clear q0 q1 q2 q3 q4 q5 q6 p0 p1 p2 p3 p4 p5 p6 p7 p8
            have CC := Lib.hid (CE.out V4 hb4 hP4)
            try unfold shV plV at CC
            refine Dr.plan_e rfl (by rfl) (fun K hK => ?_)
            go_wp2_with fail
            refine CC.out.mono ?_; rintro e V5 ⟨rfl, hx5⟩
            refine hK _ _ (.of hx5) ?_; clear hK K CC
            have hb5 := hb4.trans (hx5.mono hb4.size)
            have hS5 := hS4.ext hx5
            have hP5 := hP4.ext hx5
            have hA5 := hA4.ext hx5
            clear hx5 hb4 hS4 hP4 hA4
            have q0 := Dr.cell0 (hS5.cell (i := 0) rfl)
            have q1 := Dr.cell0 (hS5.cell (i := 1) rfl)
            have q2 := Dr.cell0 (hS5.cell (i := 2) rfl)
            have q3 := Dr.cell0 (hS5.cell (i := 3) rfl)
            have q4 := Dr.cell0 (hS5.cell (i := 4) rfl)
            have q5 := Dr.cell0 (hS5.cell (i := 5) rfl)
            have q6 := Dr.cell0 (hS5.cell (i := 6) rfl)
            have p0 := Dr.cell0 (hP5.cell (i := 0) rfl)
            have p1 := Dr.cell0 (hP5.cell (i := 1) rfl)
            have p2 := Dr.cell0 (hP5.cell (i := 2) rfl)
            have p3 := Dr.cell0 (hP5.cell (i := 3) rfl)
            have p4 := Dr.cell0 (hP5.cell (i := 4) rfl)
            have p5 := Dr.cell0 (hP5.cell (i := 5) rfl)
            have p6 := Dr.cell0 (hP5.cell (i := 6) rfl)
            have p7 := Dr.cell0 (hP5.cell (i := 7) rfl)
            have p8 := Dr.cell0 (hP5.cell (i := 8) rfl)
            refine Dr.plan_q (l := [_]) rfl (fun K hK => ?_)
            iterate 1 (go_big_quiet_step (fail))
            refine wpQuiet_nil (hK _ ?_); clear hK K
            clear q0 q1 q2 q3 q4 q5 q6 p0 p1 p2 p3 p4 p5 p6 p7 p8
            have z0 : V5.cell? ⟨V1.heap.size, 0, none⟩ = _ := hA5.cell (i := 0) rfl
            have z1 : V5.cell? ⟨V1.heap.size, 1, none⟩ = _ := hA5.cell (i := 1) rfl
            have z2 : V5.cell? ⟨V1.heap.size, 2, none⟩ = _ := hA5.cell (i := 2) rfl
            have z3 : V5.cell? ⟨V1.heap.size, 3, none⟩ = _ := hA5.cell (i := 3) rfl
            have f0 := hA5.free 0
            have f1 := hA5.free 1
            have f2 := hA5.free 2
            have f3 := hA5.free 3
            refine Dr.plan_done (tl := [_]) rfl ?_
            go_wp2
            have e1 : puts V5 V1.heap.size 0 [.bool false, .bool bL, .bool false, .bool bE] = ((((V5.setCell ⟨V1.heap.size, 0, none⟩ (.bool false)).setCell ⟨V1.heap.size, 1, none⟩ (.bool bL)).setCell ⟨V1.heap.size, 2, none⟩ (.bool false)).setCell ⟨V1.heap.size, 3, none⟩ (.bool bE)) := rfl
            have r1 := hA5.put_eq [.bool false, .bool bL, .bool false, .bool bE] e1 rfl
            have b1 := bel_put_eq [.bool false, .bool bL, .bool false, .bool bE] e1
            have hbf := hb5.trans (Dr.Bel.old (n := w.heap.size) b1 (hb5.size) (by simpa using hAg))
            clear e1 b1 z0 z1 z2 z3 f0 f1 f2 f3
            generalize ((((V5.setCell ⟨V1.heap.size, 0, none⟩ (.bool false)).setCell ⟨V1.heap.size, 1, none⟩ (.bool bL)).setCell ⟨V1.heap.size, 2, none⟩ (.bool false)).setCell ⟨V1.heap.size, 3, none⟩ (.bool bE)) = Vf at *
            go_meet
            case rel => exact ⟨_, rfl, r1, hbf⟩
        · have hj0 : (0 : Int) ≤ (j : Int) := by omega
          have hCJ := CT.out j hj 1
          rw [show decide ((0 : Int) ≤ (j : Int)) = true by simp, Bool.true_and, Int.toNat_natCast] at hT
          rw [hT] at hCJ
          have HCJ := Lib.hid hCJ
          clear hL hCL hCT CL CT h1 hdk hCJ hT
          have q0 := Dr.cell0 (hS1.cell (i := 0) rfl)
          have q1 := Dr.cell0 (hS1.cell (i := 1) rfl)
          have q2 := Dr.cell0 (hS1.cell (i := 2) rfl)
          have q3 := Dr.cell0 (hS1.cell (i := 3) rfl)
          have q4 := Dr.cell0 (hS1.cell (i := 4) rfl)
          have q5 := Dr.cell0 (hS1.cell (i := 5) rfl)
          have q6 := Dr.cell0 (hS1.cell (i := 6) rfl)
          have p0 := Dr.cell0 (hP1.cell (i := 0) rfl)
          have p1 := Dr.cell0 (hP1.cell (i := 1) rfl)
          have p2 := Dr.cell0 (hP1.cell (i := 2) rfl)
          have p3 := Dr.cell0 (hP1.cell (i := 3) rfl)
          have p4 := Dr.cell0 (hP1.cell (i := 4) rfl)
          have p5 := Dr.cell0 (hP1.cell (i := 5) rfl)
          have p6 := Dr.cell0 (hP1.cell (i := 6) rfl)
          have p7 := Dr.cell0 (hP1.cell (i := 7) rfl)
          have p8 := Dr.cell0 (hP1.cell (i := 8) rfl)
          refine Dr.plan_q (l := [_, _, _, _, _, _, _, _, _, _, _, _]) rfl (fun K hK => ?_)
          iterate 12 (go_big_quiet_step (fail))
          refine wpQuiet_nil (hK _ ?_); clear hK K
          clear q0 q1 q2 q3 q4 q5 q6 p0 p1 p2 p3 p4 p5 p6 p7 p8
          refine Dr.plan_e2 ?_ ?_
          · have CC := Lib.hid (HCL.out V1 hb1)
            try unfold shV plV at CC
            refine Dr.plan_e rfl (by rfl) (fun K hK => ?_)
            go_wp2_with fail
            refine CC.out.mono ?_; rintro e V2 ⟨rfl, hx2⟩
            refine hK _ _ (.of hx2) ?_; clear hK K CC
            have hb2 := hb1.trans (hx2.mono hb1.size)
            have hS2 := hS1.ext hx2
            have hP2 := hP1.ext hx2
            clear hx2 hb1 hS1 hP1
            have q0 := Dr.cell0 (hS2.cell (i := 0) rfl)
            have q1 := Dr.cell0 (hS2.cell (i := 1) rfl)
            have q2 := Dr.cell0 (hS2.cell (i := 2) rfl)
            have q3 := Dr.cell0 (hS2.cell (i := 3) rfl)
            have q4 := Dr.cell0 (hS2.cell (i := 4) rfl)
            have q5 := Dr.cell0 (hS2.cell (i := 5) rfl)
            have q6 := Dr.cell0 (hS2.cell (i := 6) rfl)
            have p0 := Dr.cell0 (hP2.cell (i := 0) rfl)
            have p1 := Dr.cell0 (hP2.cell (i := 1) rfl)
            have p2 := Dr.cell0 (hP2.cell (i := 2) rfl)
            have p3 := Dr.cell0 (hP2.cell (i := 3) rfl)
            have p4 := Dr.cell0 (hP2.cell (i := 4) rfl)
            have p5 := Dr.cell0 (hP2.cell (i := 5) rfl)
            have p6 := Dr.cell0 (hP2.cell (i := 6) rfl)
            have p7 := Dr.cell0 (hP2.cell (i := 7) rfl)
            have p8 := Dr.cell0 (hP2.cell (i := 8) rfl)
            refine Dr.plan_q (l := [_, _, _, _, _, _, _]) rfl (fun K hK => ?_)
            iterate 7 (go_big_quiet_step (fail))
            refine wpQuiet_nil (hK _ ?_); clear hK K
            clear q0 q1 q2 q3 q4 q5 q6 p0 p1 p2 p3 p4 p5 p6 p7 p8
            refine Dr.plan_e2 ?_ ?_
            · have CC := Lib.hid (HCT.out V2 hb2)
              try unfold shV plV at CC
              refine Dr.plan_e rfl (by rfl) (fun K hK => ?_)
              go_wp2_with fail
              refine CC.out.mono ?_; rintro e V3 ⟨rfl, hx3⟩
              refine hK _ _ (.of hx3) ?_; clear hK K CC
              have hb3 := hb2.trans (hx3.mono hb2.size)
              have hS3 := hS2.ext hx3
              have hP3 := hP2.ext hx3
              clear hx3 hb2 hS2 hP2
              have q0 := Dr.cell0 (hS3.cell (i := 0) rfl)
              have q1 := Dr.cell0 (hS3.cell (i := 1) rfl)
              have q2 := Dr.cell0 (hS3.cell (i := 2) rfl)
              have q3 := Dr.cell0 (hS3.cell (i := 3) rfl)
              have q4 := Dr.cell0 (hS3.cell (i := 4) rfl)
              have q5 := Dr.cell0 (hS3.cell (i := 5) rfl)
              have q6 := Dr.cell0 (hS3.cell (i := 6) rfl)
              have p0 := Dr.cell0 (hP3.cell (i := 0) rfl)
              have p1 := Dr.cell0 (hP3.cell (i := 1) rfl)
              have p2 := Dr.cell0 (hP3.cell (i := 2) rfl)
              have p3 := Dr.cell0 (hP3.cell (i := 3) rfl)
              have p4 := Dr.cell0 (hP3.cell (i := 4) rfl)
              have p5 := Dr.cell0 (hP3.cell (i := 5) rfl)
              have p6 := Dr.cell0 (hP3.cell (i := 6) rfl)
              have p7 := Dr.cell0 (hP3.cell (i := 7) rfl)
              have p8 := Dr.cell0 (hP3.cell (i := 8) rfl)
              refine Dr.plan_q (l := [_, _, _, _, _, _, _, _, _, _, _]) rfl (fun K hK => ?_)
              iterate 11 (go_big_quiet_step (fail))
              refine wpQuiet_nil (hK _ ?_); clear hK K
              clear q0 q1 q2 q3 q4 q5 q6 p0 p1 p2 p3 p4 p5 p6 p7 p8
              refine Dr.plan_e2 ?_ ?_
              · have CC := Lib.hid (HCJ.out V3 hb3)
                try unfold shV plV at CC
                refine Dr.plan_e rfl (by rfl) (fun K hK => ?_)
                go_wp2_with fail
                refine CC.out.mono ?_; rintro e V4 ⟨rfl, hx4⟩
                refine hK _ _ (.of hx4) ?_; clear hK K CC
                have hb4 := hb3.trans (hx4.mono hb3.size)
                have hS4 := hS3.ext hx4
                have hP4 := hP3.ext hx4
                clear hx4 hb3 hS3 hP3
                have q0 := Dr.cell0 (hS4.cell (i := 0) rfl)
                have q1 := Dr.cell0 (hS4.cell (i := 1) rfl)
                have q2 := Dr.cell0 (hS4.cell (i := 2) rfl)
                have q3 := Dr.cell0 (hS4.cell (i := 3) rfl)
                have q4 := Dr.cell0 (hS4.cell (i := 4) rfl)
                have q5 := Dr.cell0 (hS4.cell (i := 5) rfl)
                have q6 := Dr.cell0 (hS4.cell (i := 6) rfl)
                have p0 := Dr.cell0 (hP4.cell (i := 0) rfl)
                have p1 := Dr.cell0 (hP4.cell (i := 1) rfl)
                have p2 := Dr.cell0 (hP4.cell (i := 2) rfl)
                have p3 := Dr.cell0 (hP4.cell (i := 3) rfl)
                have p4 := Dr.cell0 (hP4.cell (i := 4) rfl)
                have p5 := Dr.cell0 (hP4.cell (i := 5) rfl)
                have p6 := Dr.cell0 (hP4.cell (i := 6) rfl)
                have p7 := Dr.cell0 (hP4.cell (i := 7) rfl)
                have p8 := Dr.cell0 (hP4.cell (i := 8) rfl)
                refine Dr.plan_q (l := [_, _]) rfl (fun K hK => ?_)
                iterate 2 (go_big_quiet_step (fail))
                refine wpQuiet_nil (hK _ ?_); clear hK K
                clear q0 q1 q2 q3 q4 q5 q6 p0 p1 p2 p3 p4 p5 p6 p7 p8
                refine Dr.plan_e2 ?_ ?_
                · have CC := Lib.hid (CE.out V4 hb4 hP4)
                  try unfold shV plV at CC
                  refine Dr.plan_e rfl (by rfl) (fun K hK => ?_)
                  go_wp2_with fail
                  refine CC.out.mono ?_; rintro e V5 ⟨rfl, hx5⟩
                  refine hK _ _ (.of hx5) ?_; clear hK K CC
                  have hb5 := hb4.trans (hx5.mono hb4.size)
                  have hS5 := hS4.ext hx5
                  have hP5 := hP4.ext hx5
                  clear hx5 hb4 hS4 hP4
                  have q0 := Dr.cell0 (hS5.cell (i := 0) rfl)
                  have q1 := Dr.cell0 (hS5.cell (i := 1) rfl)
                  have q2 := Dr.cell0 (hS5.cell (i := 2) rfl)
                  have q3 := Dr.cell0 (hS5.cell (i := 3) rfl)
                  have q4 := Dr.cell0 (hS5.cell (i := 4) rfl)
                  have q5 := Dr.cell0 (hS5.cell (i := 5) rfl)
                  have q6 := Dr.cell0 (hS5.cell (i := 6) rfl)
                  have p0 := Dr.cell0 (hP5.cell (i := 0) rfl)
                  have p1 := Dr.cell0 (hP5.cell (i := 1) rfl)
                  have p2 := Dr.cell0 (hP5.cell (i := 2) rfl)
                  have p3 := Dr.cell0 (hP5.cell (i := 3) rfl)
                  have p4 := Dr.cell0 (hP5.cell (i := 4) rfl)
                  have p5 := Dr.cell0 (hP5.cell (i := 5) rfl)
                  have p6 := Dr.cell0 (hP5.cell (i := 6) rfl)
                  have p7 := Dr.cell0 (hP5.cell (i := 7) rfl)
                  have p8 := Dr.cell0 (hP5.cell (i := 8) rfl)
                  refine Dr.plan_q (l := [_]) rfl (fun K hK => ?_)
                  iterate 1 (go_big_quiet_step (fail))
                  refine wpQuiet_nil (hK _ ?_); clear hK K
                  clear q0 q1 q2 q3 q4 q5 q6 p0 p1 p2 p3 p4 p5 p6 p7 p8
                  refine Dr.plan_e rfl (by rfl) (fun K hK => ?_)
                  go_wp2_with fail
                  refine hK _ _ (.of (ext_alloc _ _)) ?_; clear hK K
                  have hx6 := ext_alloc V5 (.cells #[.bool false, .bool false, .bool false, .bool false] 131)
                  have hA6 := Blk.new V5 131 [.bool false, .bool false, .bool false, .bool false]
                  have hAg := hb5.size
                  have hb6 := hb5.trans (hx6.mono hb5.size)
                  have hS6 := hS5.ext hx6
                  have hP6 := hP5.ext hx6
                  change Blk (V5.alloc (.cells #[.bool false, .bool false, .bool false, .bool false] 131)) _ _ _ at hA6
                  generalize V5.alloc (.cells #[.bool false, .bool false, .bool false, .bool false] 131) = V6 at *
                  clear hx6 hb5 hS5 hP5
                  have z0 : V6.cell? ⟨V5.heap.size, 0, none⟩ = _ := hA6.cell (i := 0) rfl
                  have z1 : V6.cell? ⟨V5.heap.size, 1, none⟩ = _ := hA6.cell (i := 1) rfl
                  have z2 : V6.cell? ⟨V5.heap.size, 2, none⟩ = _ := hA6.cell (i := 2) rfl
                  have z3 : V6.cell? ⟨V5.heap.size, 3, none⟩ = _ := hA6.cell (i := 3) rfl
                  have f0 := hA6.free 0
                  have f1 := hA6.free 1
                  have f2 := hA6.free 2
                  have f3 := hA6.free 3
                  refine Dr.plan_done (tl := [_]) rfl ?_
                  go_wp2
                  have e1 : puts V6 V5.heap.size 0 [.bool false, .bool bL, .bool bT, .bool bE] = ((((V6.setCell ⟨V5.heap.size, 0, none⟩ (.bool false)).setCell ⟨V5.heap.size, 1, none⟩ (.bool bL)).setCell ⟨V5.heap.size, 2, none⟩ (.bool bT)).setCell ⟨V5.heap.size, 3, none⟩ (.bool bE)) := rfl
                  have r1 := hA6.put_eq [.bool false, .bool bL, .bool bT, .bool bE] e1 rfl
                  have b1 := bel_put_eq [.bool false, .bool bL, .bool bT, .bool bE] e1
                  have hbf := hb6.trans (Dr.Bel.old (n := w.heap.size) b1 (hb6.size) (by simpa using hAg))
                  clear e1 b1 z0 z1 z2 z3 f0 f1 f2 f3
                  generalize ((((V6.setCell ⟨V5.heap.size, 0, none⟩ (.bool false)).setCell ⟨V5.heap.size, 1, none⟩ (.bool bL)).setCell ⟨V5.heap.size, 2, none⟩ (.bool bT)).setCell ⟨V5.heap.size, 3, none⟩ (.bool bE)) = Vf at *
                  go_meet
                  case rel => exact ⟨_, rfl, r1, hbf⟩
                · refine Dr.plan_e rfl (by rfl) (fun K hK => ?_)
                  go_wp2_with fail
                  refine hK _ _ (.of (ext_alloc _ _)) ?_; clear hK K
                  have hx5 := ext_alloc V4 (.cells #[.bool false, .bool false, .bool false, .bool false] 131)
                  have hA5 := Blk.new V4 131 [.bool false, .bool false, .bool false, .bool false]
                  have hAg := hb4.size
                  have hb5 := hb4.trans (hx5.mono hb4.size)
                  have hS5 := hS4.ext hx5
                  have hP5 := hP4.ext hx5
                  change Blk (V4.alloc (.cells #[.bool false, .bool false, .bool false, .bool false] 131)) _ _ _ at hA5
                  generalize V4.alloc (.cells #[.bool false, .bool false, .bool false, .bool false] 131) = V5 at *
                  clear hx5 hb4 hS4 hP4
                  have CC := Lib.hid (CE.out V5 hb5 hP5)
                  try unfold shV plV at CC
                  refine Dr.plan_e rfl (by rfl) (fun K hK => ?_)
                  go_wp2_with fail
                  refine CC.out.mono ?_; rintro e V6 ⟨rfl, hx6⟩
                  refine hK _ _ (.of hx6) ?_; clear hK K CC
                  have hb6 := hb5.trans (hx6.mono hb5.size)
                  have hS6 := hS5.ext hx6
                  have hP6 := hP5.ext hx6
                  have hA6 := hA5.ext hx6
                  clear hx6 hb5 hS5 hP5 hA5
                  have q0 := Dr.cell0 (hS6.cell (i := 0) rfl)
                  have q1 := Dr.cell0 (hS6.cell (i := 1) rfl)
                  have q2 := Dr.cell0 (hS6.cell (i := 2) rfl)
                  have q3 := Dr.cell0 (hS6.cell (i := 3) rfl)
                  have q4 := Dr.cell0 (hS6.cell (i := 4) rfl)
                  have q5 := Dr.cell0 (hS6.cell (i := 5) rfl)
                  have q6 := Dr.cell0 (hS6.cell (i := 6) rfl)
                  have p0 := Dr.cell0 (hP6.cell (i := 0) rfl)
                  have p1 := Dr.cell0 (hP6.cell (i := 1) rfl)
                  have p2 := Dr.cell0 (hP6.cell (i := 2) rfl)
                  have p3 := Dr.cell0 (hP6.cell (i := 3) rfl)
                  have p4 := Dr.cell0 (hP6.cell (i := 4) rfl)
                  have p5 := Dr.cell0 (hP6.cell (i := 5) rfl)
                  have p6 := Dr.cell0 (hP6.cell (i := 6) rfl)
                  have p7 := Dr.cell0 (hP6.cell (i := 7) rfl)
                  have p8 := Dr.cell0 (hP6.cell (i := 8) rfl)
                  refine Dr.plan_q (l := [_]) rfl (fun K hK => ?_)
                  iterate 1 (go_big_quiet_step (fail))
                  refine wpQuiet_nil (hK _ ?_); clear hK K
                  clear q0 q1 q2 q3 q4 q5 q6 p0 p1 p2 p3 p4 p5 p6 p7 p8
                  have z0 : V6.cell? ⟨V4.heap.size, 0, none⟩ = _ := hA6.cell (i := 0) rfl
                  have z1 : V6.cell? ⟨V4.heap.size, 1, none⟩ = _ := hA6.cell (i := 1) rfl
                  have z2 : V6.cell? ⟨V4.heap.size, 2, none⟩ = _ := hA6.cell (i := 2) rfl
                  have z3 : V6.cell? ⟨V4.heap.size, 3, none⟩ = _ := hA6.cell (i := 3) rfl
                  have f0 := hA6.free 0
                  have f1 := hA6.free 1
                  have f2 := hA6.free 2
                  have f3 := hA6.free 3
                  refine Dr.plan_done (tl := [_]) rfl ?_
                  go_wp2
                  have e1 : puts V6 V4.heap.size 0 [.bool false, .bool bL, .bool bT, .bool bE] = ((((V6.setCell ⟨V4.heap.size, 0, none⟩ (.bool false)).setCell ⟨V4.heap.size, 1, none⟩ (.bool bL)).setCell ⟨V4.heap.size, 2, none⟩ (.bool bT)).setCell ⟨V4.heap.size, 3, none⟩ (.bool bE)) := rfl
                  have r1 := hA6.put_eq [.bool false, .bool bL, .bool bT, .bool bE] e1 rfl
                  have b1 := bel_put_eq [.bool false, .bool bL, .bool bT, .bool bE] e1
                  have hbf := hb6.trans (Dr.Bel.old (n := w.heap.size) b1 (hb6.size) (by simpa using hAg))
                  clear e1 b1 z0 z1 z2 z3 f0 f1 f2 f3
                  generalize ((((V6.setCell ⟨V4.heap.size, 0, none⟩ (.bool false)).setCell ⟨V4.heap.size, 1, none⟩ (.bool bL)).setCell ⟨V4.heap.size, 2, none⟩ (.bool bT)).setCell ⟨V4.heap.size, 3, none⟩ (.bool bE)) = Vf at *
                  go_meet
                  case rel => exact ⟨_, rfl, r1, hbf⟩
              · refine Dr.plan_e rfl (by rfl) (fun K hK => ?_)
                go_wp2_with fail
                refine hK _ _ (.of (ext_alloc _ _)) ?_; clear hK K
                have hx4 := ext_alloc V3 (.cells #[.bool false, .bool false, .bool false, .bool false] 131)
                have hA4 := Blk.new V3 131 [.bool false, .bool false, .bool false, .bool false]
                have hAg := hb3.size
                have hb4 := hb3.trans (hx4.mono hb3.size)
                have hS4 := hS3.ext hx4
                have hP4 := hP3.ext hx4
                change Blk (V3.alloc (.cells #[.bool false, .bool false, .bool false, .bool false] 131)) _ _ _ at hA4
                generalize V3.alloc (.cells #[.bool false, .bool false, .bool false, .bool false] 131) = V4 at *
                clear hx4 hb3 hS3 hP3
                have CC := Lib.hid (HCJ.out V4 hb4)
                try unfold shV plV at CC
                refine Dr.plan_e rfl (by rfl) (fun K hK => ?_)
                go_wp2_with fail
                refine CC.out.mono ?_; rintro e V5 ⟨rfl, hx5⟩
                refine hK _ _ (.of hx5) ?_; clear hK K CC
                have hb5 := hb4.trans (hx5.mono hb4.size)
                have hS5 := hS4.ext hx5
                have hP5 := hP4.ext hx5
                have hA5 := hA4.ext hx5
                clear hx5 hb4 hS4 hP4 hA4
                have q0 := Dr.cell0 (hS5.cell (i := 0) rfl)
                have q1 := Dr.cell0 (hS5.cell (i := 1) rfl)
                have q2 := Dr.cell0 (hS5.cell (i := 2) rfl)
                have q3 := Dr.cell0 (hS5.cell (i := 3) rfl)
                have q4 := Dr.cell0 (hS5.cell (i := 4) rfl)
                have q5 := Dr.cell0 (hS5.cell (i := 5) rfl)
                have q6 := Dr.cell0 (hS5.cell (i := 6) rfl)
                have p0 := Dr.cell0 (hP5.cell (i := 0) rfl)
                have p1 := Dr.cell0 (hP5.cell (i := 1) rfl)
                have p2 := Dr.cell0 (hP5.cell (i := 2) rfl)
                have p3 := Dr.cell0 (hP5.cell (i := 3) rfl)
                have p4 := Dr.cell0 (hP5.cell (i := 4) rfl)
                have p5 := Dr.cell0 (hP5.cell (i := 5) rfl)
                have p6 := Dr.cell0 (hP5.cell (i := 6) rfl)
                have p7 := Dr.cell0 (hP5.cell (i := 7) rfl)
                have p8 := Dr.cell0 (hP5.cell (i := 8) rfl)
                refine Dr.plan_q (l := [_, _]) rfl (fun K hK => ?_)
                iterate 2 (go_big_quiet_step (fail))
                refine wpQuiet_nil (hK _ ?_); clear hK K
                clear q0 q1 q2 q3 q4 q5 q6 p0 p1 p2 p3 p4 p5 p6 p7 p8
                have CC := Lib.hid (CE.out V5 hb5 hP5)
                try unfold shV plV at CC
                refine Dr.plan_e rfl (by rfl) (fun K hK => ?_)
                go_wp2_with fail
                refine CC.out.mono ?_; rintro e V6 ⟨rfl, hx6⟩
                refine hK _ _ (.of hx6) ?_; clear hK K CC
                have hb6 := hb5.trans (hx6.mono hb5.size)
                have hS6 := hS5.ext hx6
                have hP6 := hP5.ext hx6
                have hA6 := hA5.ext hx6
                clear hx6 hb5 hS5 hP5 hA5
                have q0 := Dr.cell0 (hS6.cell (i := 0) rfl)
                have q1 := Dr.cell0 (hS6.cell (i := 1) rfl)
                have q2 := Dr.cell0 (hS6.cell (i := 2) rfl)
                have q3 := Dr.cell0 (hS6.cell (i := 3) rfl)
                have q4 := Dr.cell0 (hS6.cell (i := 4) rfl)
                have q5 := Dr.cell0 (hS6.cell (i := 5) rfl)
                have q6 := Dr.cell0 (hS6.cell (i := 6) rfl)
                have p0 := Dr.cell0 (hP6.cell (i := 0) rfl)
                have p1 := Dr.cell0 (hP6.cell (i := 1) rfl)
                have p2 := Dr.cell0 (hP6.cell (i := 2) rfl)
                have p3 := Dr.cell0 (hP6.cell (i := 3) rfl)
                have p4 := Dr.cell0 (hP6.cell (i := 4) rfl)
                have p5 := Dr.cell0 (hP6.cell (i := 5) rfl)
                have p6 := Dr.cell0 (hP6.cell (i := 6) rfl)
                have p7 := Dr.cell0 (hP6.cell (i := 7) rfl)
                have p8 := Dr.cell0 (hP6.cell (i := 8) rfl)
                refine Dr.plan_q (l := [_]) rfl (fun K hK => ?_)
                iterate 1 (go_big_quiet_step (fail))
                refine wpQuiet_nil (hK _ ?_); clear hK K
                clear q0 q1 q2 q3 q4 q5 q6 p0 p1 p2 p3 p4 p5 p6 p7 p8
                have z0 : V6.cell? ⟨V3.heap.size, 0, none⟩ = _ := hA6.cell (i := 0) rfl
                have z1 : V6.cell? ⟨V3.heap.size, 1, none⟩ = _ := hA6.cell (i := 1) rfl
                have z2 : V6.cell? ⟨V3.heap.size, 2, none⟩ = _ := hA6.cell (i := 2) rfl
                have z3 : V6.cell? ⟨V3.heap.size, 3, none⟩ = _ := hA6.cell (i := 3) rfl
                have f0 := hA6.free 0
                have f1 := hA6.free 1
                have f2 := hA6.free 2
                have f3 := hA6.free 3
                refine Dr.plan_done (tl := [_]) rfl ?_
                go_wp2
                have e1 : puts V6 V3.heap.size 0 [.bool false, .bool bL, .bool bT, .bool bE] = ((((V6.setCell ⟨V3.heap.size, 0, none⟩ (.bool false)).setCell ⟨V3.heap.size, 1, none⟩ (.bool bL)).setCell ⟨V3.heap.size, 2, none⟩ (.bool bT)).setCell ⟨V3.heap.size, 3, none⟩ (.bool bE)) := rfl
                have r1 := hA6.put_eq [.bool false, .bool bL, .bool bT, .bool bE] e1 rfl
                have b1 := bel_put_eq [.bool false, .bool bL, .bool bT, .bool bE] e1
                have hbf := hb6.trans (Dr.Bel.old (n := w.heap.size) b1 (hb6.size) (by simpa using hAg))
                clear e1 b1 z0 z1 z2 z3 f0 f1 f2 f3
                generalize ((((V6.setCell ⟨V3.heap.size, 0, none⟩ (.bool false)).setCell ⟨V3.heap.size, 1, none⟩ (.bool bL)).setCell ⟨V3.heap.size, 2, none⟩ (.bool bT)).setCell ⟨V3.heap.size, 3, none⟩ (.bool bE)) = Vf at *
                go_meet
                case rel => exact ⟨_, rfl, r1, hbf⟩
            · refine Dr.plan_e rfl (by rfl) (fun K hK => ?_)
              go_wp2_with fail
              refine hK _ _ (.of (ext_alloc _ _)) ?_; clear hK K
              have hx3 := ext_alloc V2 (.cells #[.bool false, .bool false, .bool false, .bool false] 131)
              have hA3 := Blk.new V2 131 [.bool false, .bool false, .bool false, .bool false]
              have hAg := hb2.size
              have hb3 := hb2.trans (hx3.mono hb2.size)
              have hS3 := hS2.ext hx3
              have hP3 := hP2.ext hx3
              change Blk (V2.alloc (.cells #[.bool false, .bool false, .bool false, .bool false] 131)) _ _ _ at hA3
              generalize V2.alloc (.cells #[.bool false, .bool false, .bool false, .bool false] 131) = V3 at *
              clear hx3 hb2 hS2 hP2
              have CC := Lib.hid (HCT.out V3 hb3)
              try unfold shV plV at CC
              refine Dr.plan_e rfl (by rfl) (fun K hK => ?_)
              go_wp2_with fail
              refine CC.out.mono ?_; rintro e V4 ⟨rfl, hx4⟩
              refine hK _ _ (.of hx4) ?_; clear hK K CC
              have hb4 := hb3.trans (hx4.mono hb3.size)
              have hS4 := hS3.ext hx4
              have hP4 := hP3.ext hx4
              have hA4 := hA3.ext hx4
              clear hx4 hb3 hS3 hP3 hA3
              have q0 := Dr.cell0 (hS4.cell (i := 0) rfl)
              have q1 := Dr.cell0 (hS4.cell (i := 1) rfl)
              have q2 := Dr.cell0 (hS4.cell (i := 2) rfl)
              have q3 := Dr.cell0 (hS4.cell (i := 3) rfl)
              have q4 := Dr.cell0 (hS4.cell (i := 4) rfl)
              have q5 := Dr.cell0 (hS4.cell (i := 5) rfl)
              have q6 := Dr.cell0 (hS4.cell (i := 6) rfl)
              have p0 := Dr.cell0 (hP4.cell (i := 0) rfl)
              have p1 := Dr.cell0 (hP4.cell (i := 1) rfl)
              have p2 := Dr.cell0 (hP4.cell (i := 2) rfl)
              have p3 := Dr.cell0 (hP4.cell (i := 3) rfl)
              have p4 := Dr.cell0 (hP4.cell (i := 4) rfl)
              have p5 := Dr.cell0 (hP4.cell (i := 5) rfl)
              have p6 := Dr.cell0 (hP4.cell (i := 6) rfl)
              have p7 := Dr.cell0 (hP4.cell (i := 7) rfl)
              have p8 := Dr.cell0 (hP4.cell (i := 8) rfl)
              refine Dr.plan_q (l := [_, _, _, _, _, _, _, _, _, _, _]) rfl (fun K hK => ?_)
              iterate 11 (go_big_quiet_step (fail))
              refine wpQuiet_nil (hK _ ?_); clear hK K
              clear q0 q1 q2 q3 q4 q5 q6 p0 p1 p2 p3 p4 p5 p6 p7 p8
              have CC := Lib.hid (HCJ.out V4 hb4)
              try unfold shV plV at CC
              refine Dr.plan_e rfl (by rfl) (fun K hK => ?_)
              go_wp2_with fail
              refine CC.out.mono ?_; rintro e V5 ⟨rfl, hx5⟩
              refine hK _ _ (.of hx5) ?_; clear hK K CC
              have hb5 := hb4.trans (hx5.mono hb4.size)
              have hS5 := hS4.ext hx5
              have hP5 := hP4.ext hx5
              have hA5 := hA4.ext hx5
              clear hx5 hb4 hS4 hP4 hA4
              have q0 := Dr.cell0 (hS5.cell (i := 0) rfl)
              have q1 := Dr.cell0 (hS5.cell (i := 1) rfl)
              have q2 := Dr.cell0 (hS5.cell (i := 2) rfl)
              have q3 := Dr.cell0 (hS5.cell (i := 3) rfl)
              have q4 := Dr.cell0 (hS5.cell (i := 4) rfl)
              have q5 := Dr.cell0 (hS5.cell (i := 5) rfl)
              have q6 := Dr.cell0 (hS5.cell (i := 6) rfl)
              have p0 := Dr.cell0 (hP5.cell (i := 0) rfl)
              have p1 := Dr.cell0 (hP5.cell (i := 1) rfl)
              have p2 := Dr.cell0 (hP5.cell (i := 2) rfl)
              have p3 := Dr.cell0 (hP5.cell (i := 3) rfl)
              have p4 := Dr.cell0 (hP5.cell (i := 4) rfl)
              have p5 := Dr.cell0 (hP5.cell (i := 5) rfl)
              have p6 := Dr.cell0 (hP5.cell (i := 6) rfl)
              have p7 := Dr.cell0 (hP5.cell (i := 7) rfl)
              have p8 := Dr.cell0 (hP5.cell (i := 8) rfl)
              refine Dr.plan_q (l := [_, _]) rfl (fun K hK => ?_)
              iterate 2 (go_big_quiet_step (fail))
              refine wpQuiet_nil (hK _ ?_); clear hK K
              clear q0 q1 q2 q3 q4 q5 q6 p0 p1 p2 p3 p4 p5 p6 p7 p8
              have CC := Lib.hid (CE.out V5 hb5 hP5)
              try unfold shV plV at CC
              refine Dr.plan_e rfl (by rfl) (fun K hK => ?_)
              go_wp2_with fail
              refine CC.out.mono ?_; rintro e V6 ⟨rfl, hx6⟩
              refine hK _ _ (.of hx6) ?_; clear hK K CC
              have hb6 := hb5.trans (hx6.mono hb5.size)
              have hS6 := hS5.ext hx6
              have hP6 := hP5.ext hx6
              have hA6 := hA5.ext hx6
              clear hx6 hb5 hS5 hP5 hA5
              have q0 := Dr.cell0 (hS6.cell (i := 0) rfl)
              have q1 := Dr.cell0 (hS6.cell (i := 1) rfl)
              have q2 := Dr.cell0 (hS6.cell (i := 2) rfl)
              have q3 := Dr.cell0 (hS6.cell (i := 3) rfl)
              have q4 := Dr.cell0 (hS6.cell (i := 4) rfl)
              have q5 := Dr.cell0 (hS6.cell (i := 5) rfl)
              have q6 := Dr.cell0 (hS6.cell (i := 6) rfl)
              have p0 := Dr.cell0 (hP6.cell (i := 0) rfl)
              have p1 := Dr.cell0 (hP6.cell (i := 1) rfl)
              have p2 := Dr.cell0 (hP6.cell (i := 2) rfl)
              have p3 := Dr.cell0 (hP6.cell (i := 3) rfl)
              have p4 := Dr.cell0 (hP6.cell (i := 4) rfl)
              have p5 := Dr.cell0 (hP6.cell (i := 5) rfl)
              have p6 := Dr.cell0 (hP6.cell (i := 6) rfl)
              have p7 := Dr.cell0 (hP6.cell (i := 7) rfl)
              have p8 := Dr.cell0 (hP6.cell (i := 8) rfl)
              refine Dr.plan_q (l := [_]) rfl (fun K hK => ?_)
              iterate 1 (go_big_quiet_step (fail))
              refine wpQuiet_nil (hK _ ?_); clear hK K
              clear q0 q1 q2 q3 q4 q5 q6 p0 p1 p2 p3 p4 p5 p6 p7 p8
              have z0 : V6.cell? ⟨V2.heap.size, 0, none⟩ = _ := hA6.cell (i := 0) rfl
              have z1 : V6.cell? ⟨V2.heap.size, 1, none⟩ = _ := hA6.cell (i := 1) rfl
              have z2 : V6.cell? ⟨V2.heap.size, 2, none⟩ = _ := hA6.cell (i := 2) rfl
              have z3 : V6.cell? ⟨V2.heap.size, 3, none⟩ = _ := hA6.cell (i := 3) rfl
              have f0 := hA6.free 0
              have f1 := hA6.free 1
              have f2 := hA6.free 2
              have f3 := hA6.free 3
              refine Dr.plan_done (tl := [_]) rfl ?_
              go_wp2
              have e1 : puts V6 V2.heap.size 0 [.bool false, .bool bL, .bool bT, .bool bE] = ((((V6.setCell ⟨V2.heap.size, 0, none⟩ (.bool false)).setCell ⟨V2.heap.size, 1, none⟩ (.bool bL)).setCell ⟨V2.heap.size, 2, none⟩ (.bool bT)).setCell ⟨V2.heap.size, 3, none⟩ (.bool bE)) := rfl
              have r1 := hA6.put_eq [.bool false, .bool bL, .bool bT, .bool bE] e1 rfl
              have b1 := bel_put_eq [.bool false, .bool bL, .bool bT, .bool bE] e1
              have hbf := hb6.trans (Dr.Bel.old (n := w.heap.size) b1 (hb6.size) (by simpa using hAg))
              clear e1 b1 z0 z1 z2 z3 f0 f1 f2 f3
              generalize ((((V6.setCell ⟨V2.heap.size, 0, none⟩ (.bool false)).setCell ⟨V2.heap.size, 1, none⟩ (.bool bL)).setCell ⟨V2.heap.size, 2, none⟩ (.bool bT)).setCell ⟨V2.heap.size, 3, none⟩ (.bool bE)) = Vf at *
              go_meet
              case rel => exact ⟨_, rfl, r1, hbf⟩
          · refine Dr.plan_e rfl (by rfl) (fun K hK => ?_)
            go_wp2_with fail
            refine hK _ _ (.of (ext_alloc _ _)) ?_; clear hK K
            have hx2 := ext_alloc V1 (.cells #[.bool false, .bool false, .bool false, .bool false] 131)
            have hA2 := Blk.new V1 131 [.bool false, .bool false, .bool false, .bool false]
            have hAg := hb1.size
            have hb2 := hb1.trans (hx2.mono hb1.size)
            have hS2 := hS1.ext hx2
            have hP2 := hP1.ext hx2
            change Blk (V1.alloc (.cells #[.bool false, .bool false, .bool false, .bool false] 131)) _ _ _ at hA2
            generalize V1.alloc (.cells #[.bool false, .bool false, .bool false, .bool false] 131) = V2 at *
            clear hx2 hb1 hS1 hP1
            have CC := Lib.hid (HCL.out V2 hb2)
            try unfold shV plV at CC
            refine Dr.plan_e rfl (by rfl) (fun K hK => ?_)
            go_wp2_with fail
            refine CC.out.mono ?_; rintro e V3 ⟨rfl, hx3⟩
            refine hK _ _ (.of hx3) ?_; clear hK K CC
            have hb3 := hb2.trans (hx3.mono hb2.size)
            have hS3 := hS2.ext hx3
            have hP3 := hP2.ext hx3
            have hA3 := hA2.ext hx3
            clear hx3 hb2 hS2 hP2 hA2
            have q0 := Dr.cell0 (hS3.cell (i := 0) rfl)
            have q1 := Dr.cell0 (hS3.cell (i := 1) rfl)
            have q2 := Dr.cell0 (hS3.cell (i := 2) rfl)
            have q3 := Dr.cell0 (hS3.cell (i := 3) rfl)
            have q4 := Dr.cell0 (hS3.cell (i := 4) rfl)
            have q5 := Dr.cell0 (hS3.cell (i := 5) rfl)
            have q6 := Dr.cell0 (hS3.cell (i := 6) rfl)
            have p0 := Dr.cell0 (hP3.cell (i := 0) rfl)
            have p1 := Dr.cell0 (hP3.cell (i := 1) rfl)
            have p2 := Dr.cell0 (hP3.cell (i := 2) rfl)
            have p3 := Dr.cell0 (hP3.cell (i := 3) rfl)
            have p4 := Dr.cell0 (hP3.cell (i := 4) rfl)
            have p5 := Dr.cell0 (hP3.cell (i := 5) rfl)
            have p6 := Dr.cell0 (hP3.cell (i := 6) rfl)
            have p7 := Dr.cell0 (hP3.cell (i := 7) rfl)
            have p8 := Dr.cell0 (hP3.cell (i := 8) rfl)
            refine Dr.plan_q (l := [_, _, _, _, _, _, _]) rfl (fun K hK => ?_)
            iterate 7 (go_big_quiet_step (fail))
            refine wpQuiet_nil (hK _ ?_); clear hK K
            clear q0 q1 q2 q3 q4 q5 q6 p0 p1 p2 p3 p4 p5 p6 p7 p8
            have CC := Lib.hid (HCT.out V3 hb3)
            try unfold shV plV at CC
            refine Dr.plan_e rfl (by rfl) (fun K hK => ?_)
            go_wp2_with fail
            refine CC.out.mono ?_; rintro e V4 ⟨rfl, hx4⟩
            refine hK _ _ (.of hx4) ?_; clear hK K CC
            have hb4 := hb3.trans (hx4.mono hb3.size)
            have hS4 := hS3.ext hx4
            have hP4 := hP3.ext hx4
            have hA4 := hA3.ext hx4
            clear hx4 hb3 hS3 hP3 hA3
            have q0 := Dr.cell0 (hS4.cell (i := 0) rfl)
            have q1 := Dr.cell0 (hS4.cell (i := 1) rfl)
            have q2 := Dr.cell0 (hS4.cell (i := 2) rfl)
            have q3 := Dr.cell0 (hS4.cell (i := 3) rfl)
            have q4 := Dr.cell0 (hS4.cell (i := 4) rfl)
            have q5 := Dr.cell0 (hS4.cell (i := 5) rfl)
            have q6 := Dr.cell0 (hS4.cell (i := 6) rfl)
            have p0 := Dr.cell0 (hP4.cell (i := 0) rfl)
            have p1 := Dr.cell0 (hP4.cell (i := 1) rfl)
            have p2 := Dr.cell0 (hP4.cell (i := 2) rfl)
            have p3 := Dr.cell0 (hP4.cell (i := 3) rfl)
            have p4 := Dr.cell0 (hP4.cell (i := 4) rfl)
            have p5 := Dr.cell0 (hP4.cell (i := 5) rfl)
            have p6 := Dr.cell0 (hP4.cell (i := 6) rfl)
            have p7 := Dr.cell0 (hP4.cell (i := 7) rfl)
            have p8 := Dr.cell0 (hP4.cell (i := 8) rfl)
            refine Dr.plan_q (l := [_, _, _, _, _, _, _, _, _, _, _]) rfl (fun K hK => ?_)
            iterate 11 (go_big_quiet_step (fail))
            refine wpQuiet_nil (hK _ ?_); clear hK K
            clear q0 q1 q2 q3 q4 q5 q6 p0 p1 p2 p3 p4 p5 p6 p7 p8
            have CC := Lib.hid (HCJ.out V4 hb4)
            try unfold shV plV at CC
            refine Dr.plan_e rfl (by rfl) (fun K hK => ?_)
            go_wp2_with fail
            refine CC.out.mono ?_; rintro e V5 ⟨rfl, hx5⟩
            refine hK _ _ (.of hx5) ?_; clear hK K CC
            have hb5 := hb4.trans (hx5.mono hb4.size)
            have hS5 := hS4.ext hx5
            have hP5 := hP4.ext hx5
            have hA5 := hA4.ext hx5
            clear hx5 hb4 hS4 hP4 hA4
            have q0 := Dr.cell0 (hS5.cell (i := 0) rfl)
            have q1 := Dr.cell0 (hS5.cell (i := 1) rfl)
            have q2 := Dr.cell0 (hS5.cell (i := 2) rfl)
            have q3 := Dr.cell0 (hS5.cell (i := 3) rfl)
            have q4 := Dr.cell0 (hS5.cell (i := 4) rfl)
            have q5 := Dr.cell0 (hS5.cell (i := 5) rfl)
            have q6 := Dr.cell0 (hS5.cell (i := 6) rfl)
            have p0 := Dr.cell0 (hP5.cell (i := 0) rfl)
            have p1 := Dr.cell0 (hP5.cell (i := 1) rfl)
            have p2 := Dr.cell0 (hP5.cell (i := 2) rfl)
            have p3 := Dr.cell0 (hP5.cell (i := 3) rfl)
            have p4 := Dr.cell0 (hP5.cell (i := 4) rfl)
            have p5 := Dr.cell0 (hP5.cell (i := 5) rfl)
            have p6 := Dr.cell0 (hP5.cell (i := 6) rfl)
            have p7 := Dr.cell0 (hP5.cell (i := 7) rfl)
            have p8 := Dr.cell0 (hP5.cell (i := 8) rfl)
            refine Dr.plan_q (l := [_, _]) rfl (fun K hK => ?_)
            iterate 2 (go_big_quiet_step (fail))
            refine wpQuiet_nil (hK _ ?_); clear hK K
            clear q0 q1 q2 q3 q4 q5 q6 p0 p1 p2 p3 p4 p5 p6 p7 p8
            have CC := Lib.hid (CE.out V5 hb5 hP5)
            try unfold shV plV at CC
            refine Dr.plan_e rfl (by rfl) (fun K hK => ?_)
            go_wp2_with fail
            refine CC.out.mono ?_; rintro e V6 ⟨rfl, hx6⟩
            refine hK _ _ (.of hx6) ?_; clear hK K CC
            have hb6 := hb5.trans (hx6.mono hb5.size)
            have hS6 := hS5.ext hx6
            have hP6 := hP5.ext hx6
            have hA6 := hA5.ext hx6
            clear hx6 hb5 hS5 hP5 hA5
            have q0 := Dr.cell0 (hS6.cell (i := 0) rfl)
            have q1 := Dr.cell0 (hS6.cell (i := 1) rfl)
            have q2 := Dr.cell0 (hS6.cell (i := 2) rfl)
            have q3 := Dr.cell0 (hS6.cell (i := 3) rfl)
            have q4 := Dr.cell0 (hS6.cell (i := 4) rfl)
            have q5 := Dr.cell0 (hS6.cell (i := 5) rfl)
            have q6 := Dr.cell0 (hS6.cell (i := 6) rfl)
            have p0 := Dr.cell0 (hP6.cell (i := 0) rfl)
            have p1 := Dr.cell0 (hP6.cell (i := 1) rfl)
            have p2 := Dr.cell0 (hP6.cell (i := 2) rfl)
            have p3 := Dr.cell0 (hP6.cell (i := 3) rfl)
            have p4 := Dr.cell0 (hP6.cell (i := 4) rfl)
            have p5 := Dr.cell0 (hP6.cell (i := 5) rfl)
            have p6 := Dr.cell0 (hP6.cell (i := 6) rfl)
            have p7 := Dr.cell0 (hP6.cell (i := 7) rfl)
            have p8 := Dr.cell0 (hP6.cell (i := 8) rfl)
            refine Dr.plan_q (l := [_]) rfl (fun K hK => ?_)
            iterate 1 (go_big_quiet_step (fail))
            refine wpQuiet_nil (hK _ ?_); clear hK K
            clear q0 q1 q2 q3 q4 q5 q6 p0 p1 p2 p3 p4 p5 p6 p7 p8
            have z0 : V6.cell? ⟨V1.heap.size, 0, none⟩ = _ := hA6.cell (i := 0) rfl
            have z1 : V6.cell? ⟨V1.heap.size, 1, none⟩ = _ := hA6.cell (i := 1) rfl
            have z2 : V6.cell? ⟨V1.heap.size, 2, none⟩ = _ := hA6.cell (i := 2) rfl
            have z3 : V6.cell? ⟨V1.heap.size, 3, none⟩ = _ := hA6.cell (i := 3) rfl
            have f0 := hA6.free 0
            have f1 := hA6.free 1
            have f2 := hA6.free 2
            have f3 := hA6.free 3
            refine Dr.plan_done (tl := [_]) rfl ?_
            go_wp2
            have e1 : puts V6 V1.heap.size 0 [.bool false, .bool bL, .bool bT, .bool bE] = ((((V6.setCell ⟨V1.heap.size, 0, none⟩ (.bool false)).setCell ⟨V1.heap.size, 1, none⟩ (.bool bL)).setCell ⟨V1.heap.size, 2, none⟩ (.bool bT)).setCell ⟨V1.heap.size, 3, none⟩ (.bool bE)) := rfl
            have r1 := hA6.put_eq [.bool false, .bool bL, .bool bT, .bool bE] e1 rfl
            have b1 := bel_put_eq [.bool false, .bool bL, .bool bT, .bool bE] e1
            have hbf := hb6.trans (Dr.Bel.old (n := w.heap.size) b1 (hb6.size) (by simpa using hAg))
            clear e1 b1 z0 z1 z2 z3 f0 f1 f2 f3
            generalize ((((V6.setCell ⟨V1.heap.size, 0, none⟩ (.bool false)).setCell ⟨V1.heap.size, 1, none⟩ (.bool bL)).setCell ⟨V1.heap.size, 2, none⟩ (.bool bT)).setCell ⟨V1.heap.size, 3, none⟩ (.bool bE)) = Vf at *
            go_meet
            case rel => exact ⟨_, rfl, r1, hbf⟩
      · rw [h1] at hCT hT
        have HCT := Lib.hid hCT
        rw [Bool.true_or] at hT
        subst hT
        clear hL hCL hCT CL CT h1 hdk
        have q0 := Dr.cell0 (hS1.cell (i := 0) rfl)
        have q1 := Dr.cell0 (hS1.cell (i := 1) rfl)
        have q2 := Dr.cell0 (hS1.cell (i := 2) rfl)
        have q3 := Dr.cell0 (hS1.cell (i := 3) rfl)
        have q4 := Dr.cell0 (hS1.cell (i := 4) rfl)
        have q5 := Dr.cell0 (hS1.cell (i := 5) rfl)
        have q6 := Dr.cell0 (hS1.cell (i := 6) rfl)
        have p0 := Dr.cell0 (hP1.cell (i := 0) rfl)
        have p1 := Dr.cell0 (hP1.cell (i := 1) rfl)
        have p2 := Dr.cell0 (hP1.cell (i := 2) rfl)
        have p3 := Dr.cell0 (hP1.cell (i := 3) rfl)
        have p4 := Dr.cell0 (hP1.cell (i := 4) rfl)
        have p5 := Dr.cell0 (hP1.cell (i := 5) rfl)
        have p6 := Dr.cell0 (hP1.cell (i := 6) rfl)
        have p7 := Dr.cell0 (hP1.cell (i := 7) rfl)
        have p8 := Dr.cell0 (hP1.cell (i := 8) rfl)
        refine Dr.plan_q (l := [_, _, _, _, _, _, _, _, _, _, _, _]) rfl (fun K hK => ?_)
        iterate 12 (go_big_quiet_step (fail))
        refine wpQuiet_nil (hK _ ?_); clear hK K
        clear q0 q1 q2 q3 q4 q5 q6 p0 p1 p2 p3 p4 p5 p6 p7 p8
        refine Dr.plan_e2 ?_ ?_
        · have CC := Lib.hid (HCL.out V1 hb1)
          try unfold shV plV at CC
          refine Dr.plan_e rfl (by rfl) (fun K hK => ?_)
          go_wp2_with fail
          refine CC.out.mono ?_; rintro e V2 ⟨rfl, hx2⟩
          refine hK _ _ (.of hx2) ?_; clear hK K CC
          have hb2 := hb1.trans (hx2.mono hb1.size)
          have hS2 := hS1.ext hx2
          have hP2 := hP1.ext hx2
          clear hx2 hb1 hS1 hP1
          have q0 := Dr.cell0 (hS2.cell (i := 0) rfl)
          have q1 := Dr.cell0 (hS2.cell (i := 1) rfl)
          have q2 := Dr.cell0 (hS2.cell (i := 2) rfl)
          have q3 := Dr.cell0 (hS2.cell (i := 3) rfl)
          have q4 := Dr.cell0 (hS2.cell (i := 4) rfl)
          have q5 := Dr.cell0 (hS2.cell (i := 5) rfl)
          have q6 := Dr.cell0 (hS2.cell (i := 6) rfl)
          have p0 := Dr.cell0 (hP2.cell (i := 0) rfl)
          have p1 := Dr.cell0 (hP2.cell (i := 1) rfl)
          have p2 := Dr.cell0 (hP2.cell (i := 2) rfl)
          have p3 := Dr.cell0 (hP2.cell (i := 3) rfl)
          have p4 := Dr.cell0 (hP2.cell (i := 4) rfl)
          have p5 := Dr.cell0 (hP2.cell (i := 5) rfl)
          have p6 := Dr.cell0 (hP2.cell (i := 6) rfl)
          have p7 := Dr.cell0 (hP2.cell (i := 7) rfl)
          have p8 := Dr.cell0 (hP2.cell (i := 8) rfl)
          refine Dr.plan_q (l := [_, _, _, _, _, _, _]) rfl (fun K hK => ?_)
          iterate 7 (go_big_quiet_step (fail))
          refine wpQuiet_nil (hK _ ?_); clear hK K
          clear q0 q1 q2 q3 q4 q5 q6 p0 p1 p2 p3 p4 p5 p6 p7 p8
          refine Dr.plan_e2 ?_ ?_
          · have CC := Lib.hid (HCT.out V2 hb2)
            try unfold shV plV at CC
            refine Dr.plan_e rfl (by rfl) (fun K hK => ?_)
            go_wp2_with fail
            refine CC.out.mono ?_; rintro e V3 ⟨rfl, hx3⟩
            refine hK _ _ (.of hx3) ?_; clear hK K CC
            have hb3 := hb2.trans (hx3.mono hb2.size)
            have hS3 := hS2.ext hx3
            have hP3 := hP2.ext hx3
            clear hx3 hb2 hS2 hP2
            have q0 := Dr.cell0 (hS3.cell (i := 0) rfl)
            have q1 := Dr.cell0 (hS3.cell (i := 1) rfl)
            have q2 := Dr.cell0 (hS3.cell (i := 2) rfl)
            have q3 := Dr.cell0 (hS3.cell (i := 3) rfl)
            have q4 := Dr.cell0 (hS3.cell (i := 4) rfl)
            have q5 := Dr.cell0 (hS3.cell (i := 5) rfl)
            have q6 := Dr.cell0 (hS3.cell (i := 6) rfl)
            have p0 := Dr.cell0 (hP3.cell (i := 0) rfl)
            have p1 := Dr.cell0 (hP3.cell (i := 1) rfl)
            have p2 := Dr.cell0 (hP3.cell (i := 2) rfl)
            have p3 := Dr.cell0 (hP3.cell (i := 3) rfl)
            have p4 := Dr.cell0 (hP3.cell (i := 4) rfl)
            have p5 := Dr.cell0 (hP3.cell (i := 5) rfl)
            have p6 := Dr.cell0 (hP3.cell (i := 6) rfl)
            have p7 := Dr.cell0 (hP3.cell (i := 7) rfl)
            have p8 := Dr.cell0 (hP3.cell (i := 8) rfl)
            refine Dr.plan_q (l := [_, _, _, _, _, _, _, _, _, _, _]) rfl (fun K hK => ?_)
            iterate 11 (go_big_quiet_step (fail))
            refine wpQuiet_nil (hK _ ?_); clear hK K
            clear q0 q1 q2 q3 q4 q5 q6 p0 p1 p2 p3 p4 p5 p6 p7 p8
            refine Dr.plan_e2 ?_ ?_
            · refine Dr.plan_e_skip rfl (by rfl) ?_; go_frame
              have q0 := Dr.cell0 (hS3.cell (i := 0) rfl)
              have q1 := Dr.cell0 (hS3.cell (i := 1) rfl)
              have q2 := Dr.cell0 (hS3.cell (i := 2) rfl)
              have q3 := Dr.cell0 (hS3.cell (i := 3) rfl)
              have q4 := Dr.cell0 (hS3.cell (i := 4) rfl)
              have q5 := Dr.cell0 (hS3.cell (i := 5) rfl)
              have q6 := Dr.cell0 (hS3.cell (i := 6) rfl)
              have p0 := Dr.cell0 (hP3.cell (i := 0) rfl)
              have p1 := Dr.cell0 (hP3.cell (i := 1) rfl)
              have p2 := Dr.cell0 (hP3.cell (i := 2) rfl)
              have p3 := Dr.cell0 (hP3.cell (i := 3) rfl)
              have p4 := Dr.cell0 (hP3.cell (i := 4) rfl)
              have p5 := Dr.cell0 (hP3.cell (i := 5) rfl)
              have p6 := Dr.cell0 (hP3.cell (i := 6) rfl)
              have p7 := Dr.cell0 (hP3.cell (i := 7) rfl)
              have p8 := Dr.cell0 (hP3.cell (i := 8) rfl)
              refine Dr.plan_q (l := [_, _]) rfl (fun K hK => ?_)
              iterate 2 (go_big_quiet_step (fail))
              refine wpQuiet_nil (hK _ ?_); clear hK K
              clear q0 q1 q2 q3 q4 q5 q6 p0 p1 p2 p3 p4 p5 p6 p7 p8
              refine Dr.plan_e2 ?_ ?_
              · have CC := Lib.hid (CE.out V3 hb3 hP3)
                try unfold shV plV at CC
                refine Dr.plan_e rfl (by rfl) (fun K hK => ?_)
                go_wp2_with fail
                refine CC.out.mono ?_; rintro e V4 ⟨rfl, hx4⟩
                refine hK _ _ (.of hx4) ?_; clear hK K CC
                have hb4 := hb3.trans (hx4.mono hb3.size)
                have hS4 := hS3.ext hx4
                have hP4 := hP3.ext hx4
                clear hx4 hb3 hS3 hP3
                have q0 := Dr.cell0 (hS4.cell (i := 0) rfl)
                have q1 := Dr.cell0 (hS4.cell (i := 1) rfl)
                have q2 := Dr.cell0 (hS4.cell (i := 2) rfl)
                have q3 := Dr.cell0 (hS4.cell (i := 3) rfl)
                have q4 := Dr.cell0 (hS4.cell (i := 4) rfl)
                have q5 := Dr.cell0 (hS4.cell (i := 5) rfl)
                have q6 := Dr.cell0 (hS4.cell (i := 6) rfl)
                have p0 := Dr.cell0 (hP4.cell (i := 0) rfl)
                have p1 := Dr.cell0 (hP4.cell (i := 1) rfl)
                have p2 := Dr.cell0 (hP4.cell (i := 2) rfl)
                have p3 := Dr.cell0 (hP4.cell (i := 3) rfl)
                have p4 := Dr.cell0 (hP4.cell (i := 4) rfl)
                have p5 := Dr.cell0 (hP4.cell (i := 5) rfl)
                have p6 := Dr.cell0 (hP4.cell (i := 6) rfl)
                have p7 := Dr.cell0 (hP4.cell (i := 7) rfl)
                have p8 := Dr.cell0 (hP4.cell (i := 8) rfl)
                refine Dr.plan_q (l := [_]) rfl (fun K hK => ?_)
                iterate 1 (go_big_quiet_step (fail))
                refine wpQuiet_nil (hK _ ?_); clear hK K
                clear q0 q1 q2 q3 q4 q5 q6 p0 p1 p2 p3 p4 p5 p6 p7 p8
                refine Dr.plan_e rfl (by rfl) (fun K hK => ?_)
                go_wp2_with fail
                refine hK _ _ (.of (ext_alloc _ _)) ?_; clear hK K
                have hx5 := ext_alloc V4 (.cells #[.bool false, .bool false, .bool false, .bool false] 131)
                have hA5 := Blk.new V4 131 [.bool false, .bool false, .bool false, .bool false]
                have hAg := hb4.size
                have hb5 := hb4.trans (hx5.mono hb4.size)
                have hS5 := hS4.ext hx5
                have hP5 := hP4.ext hx5
                change Blk (V4.alloc (.cells #[.bool false, .bool false, .bool false, .bool false] 131)) _ _ _ at hA5
                generalize V4.alloc (.cells #[.bool false, .bool false, .bool false, .bool false] 131) = V5 at *
                clear hx5 hb4 hS4 hP4
                have z0 : V5.cell? ⟨V4.heap.size, 0, none⟩ = _ := hA5.cell (i := 0) rfl
                have z1 : V5.cell? ⟨V4.heap.size, 1, none⟩ = _ := hA5.cell (i := 1) rfl
                have z2 : V5.cell? ⟨V4.heap.size, 2, none⟩ = _ := hA5.cell (i := 2) rfl
                have z3 : V5.cell? ⟨V4.heap.size, 3, none⟩ = _ := hA5.cell (i := 3) rfl
                have f0 := hA5.free 0
                have f1 := hA5.free 1
                have f2 := hA5.free 2
                have f3 := hA5.free 3
                refine Dr.plan_done (tl := [_]) rfl ?_
                go_wp2
                have e1 : puts V5 V4.heap.size 0 [.bool false, .bool bL, .bool true, .bool bE] = ((((V5.setCell ⟨V4.heap.size, 0, none⟩ (.bool false)).setCell ⟨V4.heap.size, 1, none⟩ (.bool bL)).setCell ⟨V4.heap.size, 2, none⟩ (.bool true)).setCell ⟨V4.heap.size, 3, none⟩ (.bool bE)) := rfl
                have r1 := hA5.put_eq [.bool false, .bool bL, .bool true, .bool bE] e1 rfl
                have b1 := bel_put_eq [.bool false, .bool bL, .bool true, .bool bE] e1
                have hbf := hb5.trans (Dr.Bel.old (n := w.heap.size) b1 (hb5.size) (by simpa using hAg))
                clear e1 b1 z0 z1 z2 z3 f0 f1 f2 f3
                generalize ((((V5.setCell ⟨V4.heap.size, 0, none⟩ (.bool false)).setCell ⟨V4.heap.size, 1, none⟩ (.bool bL)).setCell ⟨V4.heap.size, 2, none⟩ (.bool true)).setCell ⟨V4.heap.size, 3, none⟩ (.bool bE)) = Vf at *
                go_meet
                case rel => exact ⟨_, rfl, r1, hbf⟩
              · refine Dr.plan_e rfl (by rfl) (fun K hK => ?_)
                go_wp2_with fail
                refine hK _ _ (.of (ext_alloc _ _)) ?_; clear hK K
                have hx4 := ext_alloc V3 (.cells #[.bool false, .bool false, .bool false, .bool false] 131)
                have hA4 := Blk.new V3 131 [.bool false, .bool false, .bool false, .bool false]
                have hAg := hb3.size
                have hb4 := hb3.trans (hx4.mono hb3.size)
                have hS4 := hS3.ext hx4
                have hP4 := hP3.ext hx4
                change Blk (V3.alloc (.cells #[.bool false, .bool false, .bool false, .bool false] 131)) _ _ _ at hA4
                generalize V3.alloc (.cells #[.bool false, .bool false, .bool false, .bool false] 131) = V4 at *
                clear hx4 hb3 hS3 hP3
                have CC := Lib.hid (CE.out V4 hb4 hP4)
                try unfold shV plV at CC
                refine Dr.plan_e rfl (by rfl) (fun K hK => ?_)
                go_wp2_with fail
                refine CC.out.mono ?_; rintro e V5 ⟨rfl, hx5⟩
                refine hK _ _ (.of hx5) ?_; clear hK K CC
                have hb5 := hb4.trans (hx5.mono hb4.size)
                have hS5 := hS4.ext hx5
                have hP5 := hP4.ext hx5
                have hA5 := hA4.ext hx5
                clear hx5 hb4 hS4 hP4 hA4
                have q0 := Dr.cell0 (hS5.cell (i := 0) rfl)
                have q1 := Dr.cell0 (hS5.cell (i := 1) rfl)
                have q2 := Dr.cell0 (hS5.cell (i := 2) rfl)
                have q3 := Dr.cell0 (hS5.cell (i := 3) rfl)
                have q4 := Dr.cell0 (hS5.cell (i := 4) rfl)
                have q5 := Dr.cell0 (hS5.cell (i := 5) rfl)
                have q6 := Dr.cell0 (hS5.cell (i := 6) rfl)
                have p0 := Dr.cell0 (hP5.cell (i := 0) rfl)
                have p1 := Dr.cell0 (hP5.cell (i := 1) rfl)
                have p2 := Dr.cell0 (hP5.cell (i := 2) rfl)
                have p3 := Dr.cell0 (hP5.cell (i := 3) rfl)
                have p4 := Dr.cell0 (hP5.cell (i := 4) rfl)
                have p5 := Dr.cell0 (hP5.cell (i := 5) rfl)
                have p6 := Dr.cell0 (hP5.cell (i := 6) rfl)
                have p7 := Dr.cell0 (hP5.cell (i := 7) rfl)
                have p8 := Dr.cell0 (hP5.cell (i := 8) rfl)
                refine Dr.plan_q (l := [_]) rfl (fun K hK => ?_)
                iterate 1 (go_big_quiet_step (fail))
                refine wpQuiet_nil (hK _ ?_); clear hK K
                clear q0 q1 q2 q3 q4 q5 q6 p0 p1 p2 p3 p4 p5 p6 p7 p8
                have z0 : V5.cell? ⟨V3.heap.size, 0, none⟩ = _ := hA5.cell (i := 0) rfl
                have z1 : V5.cell? ⟨V3.heap.size, 1, none⟩ = _ := hA5.cell (i := 1) rfl
                have z2 : V5.cell? ⟨V3.heap.size, 2, none⟩ = _ := hA5.cell (i := 2) rfl
                have z3 : V5.cell? ⟨V3.heap.size, 3, none⟩ = _ := hA5.cell (i := 3) rfl
                have f0 := hA5.free 0
                have f1 := hA5.free 1
                have f2 := hA5.free 2
                have f3 := hA5.free 3
                refine Dr.plan_done (tl := [_]) rfl ?_
                go_wp2
                have e1 : puts V5 V3.heap.size 0 [.bool false, .bool bL, .bool true, .bool bE] = ((((V5.setCell ⟨V3.heap.size, 0, none⟩ (.bool false)).setCell ⟨V3.heap.size, 1, none⟩ (.bool bL)).setCell ⟨V3.heap.size, 2, none⟩ (.bool true)).setCell ⟨V3.heap.size, 3, none⟩ (.bool bE)) := rfl
                have r1 := hA5.put_eq [.bool false, .bool bL, .bool true, .bool bE] e1 rfl
                have b1 := bel_put_eq [.bool false, .bool bL, .bool true, .bool bE] e1
                have hbf := hb5.trans (Dr.Bel.old (n := w.heap.size) b1 (hb5.size) (by simpa using hAg))
                clear e1 b1 z0 z1 z2 z3 f0 f1 f2 f3
                generalize ((((V5.setCell ⟨V3.heap.size, 0, none⟩ (.bool false)).setCell ⟨V3.heap.size, 1, none⟩ (.bool bL)).setCell ⟨V3.heap.size, 2, none⟩ (.bool true)).setCell ⟨V3.heap.size, 3, none⟩ (.bool bE)) = Vf at *
                go_meet
                case rel => exact ⟨_, rfl, r1, hbf⟩
            · refine Dr.plan_e rfl (by rfl) (fun K hK => ?_)
              go_wp2_with fail
              refine hK _ _ (.of (ext_alloc _ _)) ?_; clear hK K
              have hx4 := ext_alloc V3 (.cells #[.bool false, .bool false, .bool false, .bool false] 131)
              have hA4 := Blk.new V3 131 [.bool false, .bool false, .bool false, .bool false]
              have hAg := hb3.size
              have hb4 := hb3.trans (hx4.mono hb3.size)
              have hS4 := hS3.ext hx4
              have hP4 := hP3.ext hx4
              change Blk (V3.alloc (.cells #[.bool false, .bool false, .bool false, .bool false] 131)) _ _ _ at hA4
              generalize V3.alloc (.cells #[.bool false, .bool false, .bool false, .bool false] 131) = V4 at *
              clear hx4 hb3 hS3 hP3
              refine Dr.plan_e_skip rfl (by rfl) ?_; go_frame
              have q0 := Dr.cell0 (hS4.cell (i := 0) rfl)
              have q1 := Dr.cell0 (hS4.cell (i := 1) rfl)
              have q2 := Dr.cell0 (hS4.cell (i := 2) rfl)
              have q3 := Dr.cell0 (hS4.cell (i := 3) rfl)
              have q4 := Dr.cell0 (hS4.cell (i := 4) rfl)
              have q5 := Dr.cell0 (hS4.cell (i := 5) rfl)
              have q6 := Dr.cell0 (hS4.cell (i := 6) rfl)
              have p0 := Dr.cell0 (hP4.cell (i := 0) rfl)
              have p1 := Dr.cell0 (hP4.cell (i := 1) rfl)
              have p2 := Dr.cell0 (hP4.cell (i := 2) rfl)
              have p3 := Dr.cell0 (hP4.cell (i := 3) rfl)
              have p4 := Dr.cell0 (hP4.cell (i := 4) rfl)
              have p5 := Dr.cell0 (hP4.cell (i := 5) rfl)
              have p6 := Dr.cell0 (hP4.cell (i := 6) rfl)
              have p7 := Dr.cell0 (hP4.cell (i := 7) rfl)
              have p8 := Dr.cell0 (hP4.cell (i := 8) rfl)
              refine Dr.plan_q (l := [_, _]) rfl (fun K hK => ?_)
              iterate 2 (go_big_quiet_step (fail))
              refine wpQuiet_nil (hK _ ?_); clear hK K
              clear q0 q1 q2 q3 q4 q5 q6 p0 p1 p2 p3 p4 p5 p6 p7 p8
              have CC := Lib.hid (CE.out V4 hb4 hP4)
              try unfold shV plV at CC
              refine Dr.plan_e rfl (by rfl) (fun K hK => ?_)
              go_wp2_with fail
              refine CC.out.mono ?_; rintro e V5 ⟨rfl, hx5⟩
              refine hK _ _ (.of hx5) ?_; clear hK K CC
              have hb5 := hb4.trans (hx5.mono hb4.size)
              have hS5 := hS4.ext hx5
              have hP5 := hP4.ext hx5
              have hA5 := hA4.ext hx5
              clear hx5 hb4 hS4 hP4 hA4
              have q0 := Dr.cell0 (hS5.cell (i := 0) rfl)
              have q1 := Dr.cell0 (hS5.cell (i := 1) rfl)
              have q2 := Dr.cell0 (hS5.cell (i := 2) rfl)
              have q3 := Dr.cell0 (hS5.cell (i := 3) rfl)
              have q4 := Dr.cell0 (hS5.cell (i := 4) rfl)
              have q5 := Dr.cell0 (hS5.cell (i := 5) rfl)
              have q6 := Dr.cell0 (hS5.cell (i := 6) rfl)
              have p0 := Dr.cell0 (hP5.cell (i := 0) rfl)
              have p1 := Dr.cell0 (hP5.cell (i := 1) rfl)
              have p2 := Dr.cell0 (hP5.cell (i := 2) rfl)
              have p3 := Dr.cell0 (hP5.cell (i := 3) rfl)
              have p4 := Dr.cell0 (hP5.cell (i := 4) rfl)
              have p5 := Dr.cell0 (hP5.cell (i := 5) rfl)
              have p6 := Dr.cell0 (hP5.cell (i := 6) rfl)
              have p7 := Dr.cell0 (hP5.cell (i := 7) rfl)
              have p8 := Dr.cell0 (hP5.cell (i := 8) rfl)
              refine Dr.plan_q (l := [_]) rfl (fun K hK => ?_)
              iterate 1 (go_big_quiet_step (fail))
              refine wpQuiet_nil (hK _ ?_); clear hK K
              clear q0 q1 q2 q3 q4 q5 q6 p0 p1 p2 p3 p4 p5 p6 p7 p8
              have z0 : V5.cell? ⟨V3.heap.size, 0, none⟩ = _ := hA5.cell (i := 0) rfl
              have z1 : V5.cell? ⟨V3.heap.size, 1, none⟩ = _ := hA5.cell (i := 1) rfl
              have z2 : V5.cell? ⟨V3.heap.size, 2, none⟩ = _ := hA5.cell (i := 2) rfl
              have z3 : V5.cell? ⟨V3.heap.size, 3, none⟩ = _ := hA5.cell (i := 3) rfl
              have f0 := hA5.free 0
              have f1 := hA5.free 1
              have f2 := hA5.free 2
              have f3 := hA5.free 3
              refine Dr.plan_done (tl := [_]) rfl ?_
              go_wp2
              have e1 : puts V5 V3.heap.size 0 [.bool false, .bool bL, .bool true, .bool bE] = ((((V5.setCell ⟨V3.heap.size, 0, none⟩ (.bool false)).setCell ⟨V3.heap.size, 1, none⟩ (.bool bL)).setCell ⟨V3.heap.size, 2, none⟩ (.bool true)).setCell ⟨V3.heap.size, 3, none⟩ (.bool bE)) := rfl
              have r1 := hA5.put_eq [.bool false, .bool bL, .bool true, .bool bE] e1 rfl
              have b1 := bel_put_eq [.bool false, .bool bL, .bool true, .bool bE] e1
              have hbf := hb5.trans (Dr.Bel.old (n := w.heap.size) b1 (hb5.size) (by simpa using hAg))
              clear e1 b1 z0 z1 z2 z3 f0 f1 f2 f3
              generalize ((((V5.setCell ⟨V3.heap.size, 0, none⟩ (.bool false)).setCell ⟨V3.heap.size, 1, none⟩ (.bool bL)).setCell ⟨V3.heap.size, 2, none⟩ (.bool true)).setCell ⟨V3.heap.size, 3, none⟩ (.bool bE)) = Vf at *
              go_meet
              case rel => exact ⟨_, rfl, r1, hbf⟩
          · refine Dr.plan_e rfl (by rfl) (fun K hK => ?_)
            go_wp2_with fail
            refine hK _ _ (.of (ext_alloc _ _)) ?_; clear hK K
            have hx3 := ext_alloc V2 (.cells #[.bool false, .bool false, .bool false, .bool false] 131)
            have hA3 := Blk.new V2 131 [.bool false, .bool false, .bool false, .bool false]
            have hAg := hb2.size
            have hb3 := hb2.trans (hx3.mono hb2.size)
            have hS3 := hS2.ext hx3
            have hP3 := hP2.ext hx3
            change Blk (V2.alloc (.cells #[.bool false, .bool false, .bool false, .bool false] 131)) _ _ _ at hA3
            generalize V2.alloc (.cells #[.bool false, .bool false, .bool false, .bool false] 131) = V3 at *
            clear hx3 hb2 hS2 hP2
            have CC := Lib.hid (HCT.out V3 hb3)
            try unfold shV plV at CC
            refine Dr.plan_e rfl (by rfl) (fun K hK => ?_)
            go_wp2_with fail
            refine CC.out.mono ?_; rintro e V4 ⟨rfl, hx4⟩
            refine hK _ _ (.of hx4) ?_; clear hK K CC
            have hb4 := hb3.trans (hx4.mono hb3.size)
            have hS4 := hS3.ext hx4
            have hP4 := hP3.ext hx4
            have hA4 := hA3.ext hx4
            clear hx4 hb3 hS3 hP3 hA3
            have q0 := Dr.cell0 (hS4.cell (i := 0) rfl)
            have q1 := Dr.cell0 (hS4.cell (i := 1) rfl)
            have q2 := Dr.cell0 (hS4.cell (i := 2) rfl)
            have q3 := Dr.cell0 (hS4.cell (i := 3) rfl)
            have q4 := Dr.cell0 (hS4.cell (i := 4) rfl)
            have q5 := Dr.cell0 (hS4.cell (i := 5) rfl)
            have q6 := Dr.cell0 (hS4.cell (i := 6) rfl)
            have p0 := Dr.cell0 (hP4.cell (i := 0) rfl)
            have p1 := Dr.cell0 (hP4.cell (i := 1) rfl)
            have p2 := Dr.cell0 (hP4.cell (i := 2) rfl)
            have p3 := Dr.cell0 (hP4.cell (i := 3) rfl)
            have p4 := Dr.cell0 (hP4.cell (i := 4) rfl)
            have p5 := Dr.cell0 (hP4.cell (i := 5) rfl)
            have p6 := Dr.cell0 (hP4.cell (i := 6) rfl)
            have p7 := Dr.cell0 (hP4.cell (i := 7) rfl)
            have p8 := Dr.cell0 (hP4.cell (i := 8) rfl)
            refine Dr.plan_q (l := [_, _, _, _, _, _, _, _, _, _, _]) rfl (fun K hK => ?_)
            iterate 11 (go_big_quiet_step (fail))
            refine wpQuiet_nil (hK _ ?_); clear hK K
            clear q0 q1 q2 q3 q4 q5 q6 p0 p1 p2 p3 p4 p5 p6 p7 p8
            refine Dr.plan_e_skip rfl (by rfl) ?_; go_frame
            have q0 := Dr.cell0 (hS4.cell (i := 0) rfl)
            have q1 := Dr.cell0 (hS4.cell (i := 1) rfl)
            have q2 := Dr.cell0 (hS4.cell (i := 2) rfl)
            have q3 := Dr.cell0 (hS4.cell (i := 3) rfl)
            have q4 := Dr.cell0 (hS4.cell (i := 4) rfl)
            have q5 := Dr.cell0 (hS4.cell (i := 5) rfl)
            have q6 := Dr.cell0 (hS4.cell (i := 6) rfl)
            have p0 := Dr.cell0 (hP4.cell (i := 0) rfl)
            have p1 := Dr.cell0 (hP4.cell (i := 1) rfl)
            have p2 := Dr.cell0 (hP4.cell (i := 2) rfl)
            have p3 := Dr.cell0 (hP4.cell (i := 3) rfl)
            have p4 := Dr.cell0 (hP4.cell (i := 4) rfl)
            have p5 := Dr.cell0 (hP4.cell (i := 5) rfl)
            have p6 := Dr.cell0 (hP4.cell (i := 6) rfl)
            have p7 := Dr.cell0 (hP4.cell (i := 7) rfl)
            have p8 := Dr.cell0 (hP4.cell (i := 8) rfl)
            refine Dr.plan_q (l := [_, _]) rfl (fun K hK => ?_)
            iterate 2 (go_big_quiet_step (fail))
            refine wpQuiet_nil (hK _ ?_); clear hK K
            clear q0 q1 q2 q3 q4 q5 q6 p0 p1 p2 p3 p4 p5 p6 p7 p8
            have CC := Lib.hid (CE.out V4 hb4 hP4)
            try unfold shV plV at CC
            refine Dr.plan_e rfl (by rfl) (fun K hK => ?_)
            go_wp2_with fail
            refine CC.out.mono ?_; rintro e V5 ⟨rfl, hx5⟩
            refine hK _ _ (.of hx5) ?_; clear hK K CC
            have hb5 := hb4.trans (hx5.mono hb4.size)
            have hS5 := hS4.ext hx5
            have hP5 := hP4.ext hx5
            have hA5 := hA4.ext hx5
            clear hx5 hb4 hS4 hP4 hA4
            have q0 := Dr.cell0 (hS5.cell (i := 0) rfl)
            have q1 := Dr.cell0 (hS5.cell (i := 1) rfl)
            have q2 := Dr.cell0 (hS5.cell (i := 2) rfl)
            have q3 := Dr.cell0 (hS5.cell (i := 3) rfl)
            have q4 := Dr.cell0 (hS5.cell (i := 4) rfl)
            have q5 := Dr.cell0 (hS5.cell (i := 5) rfl)
            have q6 := Dr.cell0 (hS5.cell (i := 6) rfl)
            have p0 := Dr.cell0 (hP5.cell (i := 0) rfl)
            have p1 := Dr.cell0 (hP5.cell (i := 1) rfl)
            have p2 := Dr.cell0 (hP5.cell (i := 2) rfl)
            have p3 := Dr.cell0 (hP5.cell (i := 3) rfl)
            have p4 := Dr.cell0 (hP5.cell (i := 4) rfl)
            have p5 := Dr.cell0 (hP5.cell (i := 5) rfl)
            have p6 := Dr.cell0 (hP5.cell (i := 6) rfl)
            have p7 := Dr.cell0 (hP5.cell (i := 7) rfl)
            have p8 := Dr.cell0 (hP5.cell (i := 8) rfl)
            refine Dr.plan_q (l := [_]) rfl (fun K hK => ?_)
            iterate 1 (go_big_quiet_step (fail))
            refine wpQuiet_nil (hK _ ?_); clear hK K
            clear q0 q1 q2 q3 q4 q5 q6 p0 p1 p2 p3 p4 p5 p6 p7 p8
            have z0 : V5.cell? ⟨V2.heap.size, 0, none⟩ = _ := hA5.cell (i := 0) rfl
            have z1 : V5.cell? ⟨V2.heap.size, 1, none⟩ = _ := hA5.cell (i := 1) rfl
            have z2 : V5.cell? ⟨V2.heap.size, 2, none⟩ = _ := hA5.cell (i := 2) rfl
            have z3 : V5.cell? ⟨V2.heap.size, 3, none⟩ = _ := hA5.cell (i := 3) rfl
            have f0 := hA5.free 0
            have f1 := hA5.free 1
            have f2 := hA5.free 2
            have f3 := hA5.free 3
            refine Dr.plan_done (tl := [_]) rfl ?_
            go_wp2
            have e1 : puts V5 V2.heap.size 0 [.bool false, .bool bL, .bool true, .bool bE] = ((((V5.setCell ⟨V2.heap.size, 0, none⟩ (.bool false)).setCell ⟨V2.heap.size, 1, none⟩ (.bool bL)).setCell ⟨V2.heap.size, 2, none⟩ (.bool true)).setCell ⟨V2.heap.size, 3, none⟩ (.bool bE)) := rfl
            have r1 := hA5.put_eq [.bool false, .bool bL, .bool true, .bool bE] e1 rfl
            have b1 := bel_put_eq [.bool false, .bool bL, .bool true, .bool bE] e1
            have hbf := hb5.trans (Dr.Bel.old (n := w.heap.size) b1 (hb5.size) (by simpa using hAg))
            clear e1 b1 z0 z1 z2 z3 f0 f1 f2 f3
            generalize ((((V5.setCell ⟨V2.heap.size, 0, none⟩ (.bool false)).setCell ⟨V2.heap.size, 1, none⟩ (.bool bL)).setCell ⟨V2.heap.size, 2, none⟩ (.bool true)).setCell ⟨V2.heap.size, 3, none⟩ (.bool bE)) = Vf at *
            go_meet
            case rel => exact ⟨_, rfl, r1, hbf⟩
        · refine Dr.plan_e rfl (by rfl) (fun K hK => ?_)
          go_wp2_with fail
          refine hK _ _ (.of (ext_alloc _ _)) ?_; clear hK K
          have hx2 := ext_alloc V1 (.cells #[.bool false, .bool false, .bool false, .bool false] 131)
          have hA2 := Blk.new V1 131 [.bool false, .bool false, .bool false, .bool false]
          have hAg := hb1.size
          have hb2 := hb1.trans (hx2.mono hb1.size)
          have hS2 := hS1.ext hx2
          have hP2 := hP1.ext hx2
          change Blk (V1.alloc (.cells #[.bool false, .bool false, .bool false, .bool false] 131)) _ _ _ at hA2
          generalize V1.alloc (.cells #[.bool false, .bool false, .bool false, .bool false] 131) = V2 at *
          clear hx2 hb1 hS1 hP1
          have CC := Lib.hid (HCL.out V2 hb2)
          try unfold shV plV at CC
          refine Dr.plan_e rfl (by rfl) (fun K hK => ?_)
          go_wp2_with fail
          refine CC.out.mono ?_; rintro e V3 ⟨rfl, hx3⟩
          refine hK _ _ (.of hx3) ?_; clear hK K CC
          have hb3 := hb2.trans (hx3.mono hb2.size)
          have hS3 := hS2.ext hx3
          have hP3 := hP2.ext hx3
          have hA3 := hA2.ext hx3
          clear hx3 hb2 hS2 hP2 hA2
          have q0 := Dr.cell0 (hS3.cell (i := 0) rfl)
          have q1 := Dr.cell0 (hS3.cell (i := 1) rfl)
          have q2 := Dr.cell0 (hS3.cell (i := 2) rfl)
          have q3 := Dr.cell0 (hS3.cell (i := 3) rfl)
          have q4 := Dr.cell0 (hS3.cell (i := 4) rfl)
          have q5 := Dr.cell0 (hS3.cell (i := 5) rfl)
          have q6 := Dr.cell0 (hS3.cell (i := 6) rfl)
          have p0 := Dr.cell0 (hP3.cell (i := 0) rfl)
          have p1 := Dr.cell0 (hP3.cell (i := 1) rfl)
          have p2 := Dr.cell0 (hP3.cell (i := 2) rfl)
          have p3 := Dr.cell0 (hP3.cell (i := 3) rfl)
          have p4 := Dr.cell0 (hP3.cell (i := 4) rfl)
          have p5 := Dr.cell0 (hP3.cell (i := 5) rfl)
          have p6 := Dr.cell0 (hP3.cell (i := 6) rfl)
          have p7 := Dr.cell0 (hP3.cell (i := 7) rfl)
          have p8 := Dr.cell0 (hP3.cell (i := 8) rfl)
          refine Dr.plan_q (l := [_, _, _, _, _, _, _]) rfl (fun K hK => ?_)
          iterate 7 (go_big_quiet_step (fail))
          refine wpQuiet_nil (hK _ ?_); clear hK K
          clear q0 q1 q2 q3 q4 q5 q6 p0 p1 p2 p3 p4 p5 p6 p7 p8
          have CC := Lib.hid (HCT.out V3 hb3)
          try unfold shV plV at CC
          refine Dr.plan_e rfl (by rfl) (fun K hK => ?_)
          go_wp2_with fail
          refine CC.out.mono ?_; rintro e V4 ⟨rfl, hx4⟩
          refine hK _ _ (.of hx4) ?_; clear hK K CC
          have hb4 := hb3.trans (hx4.mono hb3.size)
          have hS4 := hS3.ext hx4
          have hP4 := hP3.ext hx4
          have hA4 := hA3.ext hx4
          clear hx4 hb3 hS3 hP3 hA3
          have q0 := Dr.cell0 (hS4.cell (i := 0) rfl)
          have q1 := Dr.cell0 (hS4.cell (i := 1) rfl)
          have q2 := Dr.cell0 (hS4.cell (i := 2) rfl)
          have q3 := Dr.cell0 (hS4.cell (i := 3) rfl)
          have q4 := Dr.cell0 (hS4.cell (i := 4) rfl)
          have q5 := Dr.cell0 (hS4.cell (i := 5) rfl)
          have q6 := Dr.cell0 (hS4.cell (i := 6) rfl)
          have p0 := Dr.cell0 (hP4.cell (i := 0) rfl)
          have p1 := Dr.cell0 (hP4.cell (i := 1) rfl)
          have p2 := Dr.cell0 (hP4.cell (i := 2) rfl)
          have p3 := Dr.cell0 (hP4.cell (i := 3) rfl)
          have p4 := Dr.cell0 (hP4.cell (i := 4) rfl)
          have p5 := Dr.cell0 (hP4.cell (i := 5) rfl)
          have p6 := Dr.cell0 (hP4.cell (i := 6) rfl)
          have p7 := Dr.cell0 (hP4.cell (i := 7) rfl)
          have p8 := Dr.cell0 (hP4.cell (i := 8) rfl)
          refine Dr.plan_q (l := [_, _, _, _, _, _, _, _, _, _, _]) rfl (fun K hK => ?_)
          iterate 11 (go_big_quiet_step (fail))
          refine wpQuiet_nil (hK _ ?_); clear hK K
          clear q0 q1 q2 q3 q4 q5 q6 p0 p1 p2 p3 p4 p5 p6 p7 p8
          refine Dr.plan_e_skip rfl (by rfl) ?_; go_frame
          have q0 := Dr.cell0 (hS4.cell (i := 0) rfl)
          have q1 := Dr.cell0 (hS4.cell (i := 1) rfl)
          have q2 := Dr.cell0 (hS4.cell (i := 2) rfl)
          have q3 := Dr.cell0 (hS4.cell (i := 3) rfl)
          have q4 := Dr.cell0 (hS4.cell (i := 4) rfl)
          have q5 := Dr.cell0 (hS4.cell (i := 5) rfl)
          have q6 := Dr.cell0 (hS4.cell (i := 6) rfl)
          have p0 := Dr.cell0 (hP4.cell (i := 0) rfl)
          have p1 := Dr.cell0 (hP4.cell (i := 1) rfl)
          have p2 := Dr.cell0 (hP4.cell (i := 2) rfl)
          have p3 := Dr.cell0 (hP4.cell (i := 3) rfl)
          have p4 := Dr.cell0 (hP4.cell (i := 4) rfl)
          have p5 := Dr.cell0 (hP4.cell (i := 5) rfl)
          have p6 := Dr.cell0 (hP4.cell (i := 6) rfl)
          have p7 := Dr.cell0 (hP4.cell (i := 7) rfl)
          have p8 := Dr.cell0 (hP4.cell (i := 8) rfl)
          refine Dr.plan_q (l := [_, _]) rfl (fun K hK => ?_)
          iterate 2 (go_big_quiet_step (fail))
          refine wpQuiet_nil (hK _ ?_); clear hK K
          clear q0 q1 q2 q3 q4 q5 q6 p0 p1 p2 p3 p4 p5 p6 p7 p8
          have CC := Lib.hid (CE.out V4 hb4 hP4)
          try unfold shV plV at CC
          refine Dr.plan_e rfl (by rfl) (fun K hK => ?_)
          go_wp2_with fail
          refine CC.out.mono ?_; rintro e V5 ⟨rfl, hx5⟩
          refine hK _ _ (.of hx5) ?_; clear hK K CC
          have hb5 := hb4.trans (hx5.mono hb4.size)
          have hS5 := hS4.ext hx5
          have hP5 := hP4.ext hx5
          have hA5 := hA4.ext hx5
          clear hx5 hb4 hS4 hP4 hA4
          have q0 := Dr.cell0 (hS5.cell (i := 0) rfl)
          have q1 := Dr.cell0 (hS5.cell (i := 1) rfl)
          have q2 := Dr.cell0 (hS5.cell (i := 2) rfl)
          have q3 := Dr.cell0 (hS5.cell (i := 3) rfl)
          have q4 := Dr.cell0 (hS5.cell (i := 4) rfl)
          have q5 := Dr.cell0 (hS5.cell (i := 5) rfl)
          have q6 := Dr.cell0 (hS5.cell (i := 6) rfl)
          have p0 := Dr.cell0 (hP5.cell (i := 0) rfl)
          have p1 := Dr.cell0 (hP5.cell (i := 1) rfl)
          have p2 := Dr.cell0 (hP5.cell (i := 2) rfl)
          have p3 := Dr.cell0 (hP5.cell (i := 3) rfl)
          have p4 := Dr.cell0 (hP5.cell (i := 4) rfl)
          have p5 := Dr.cell0 (hP5.cell (i := 5) rfl)
          have p6 := Dr.cell0 (hP5.cell (i := 6) rfl)
          have p7 := Dr.cell0 (hP5.cell (i := 7) rfl)
          have p8 := Dr.cell0 (hP5.cell (i := 8) rfl)
          refine Dr.plan_q (l := [_]) rfl (fun K hK => ?_)
          iterate 1 (go_big_quiet_step (fail))
          refine wpQuiet_nil (hK _ ?_); clear hK K
          clear q0 q1 q2 q3 q4 q5 q6 p0 p1 p2 p3 p4 p5 p6 p7 p8
          have z0 : V5.cell? ⟨V1.heap.size, 0, none⟩ = _ := hA5.cell (i := 0) rfl
          have z1 : V5.cell? ⟨V1.heap.size, 1, none⟩ = _ := hA5.cell (i := 1) rfl
          have z2 : V5.cell? ⟨V1.heap.size, 2, none⟩ = _ := hA5.cell (i := 2) rfl
          have z3 : V5.cell? ⟨V1.heap.size, 3, none⟩ = _ := hA5.cell (i := 3) rfl
          have f0 := hA5.free 0
          have f1 := hA5.free 1
          have f2 := hA5.free 2
          have f3 := hA5.free 3
          refine Dr.plan_done (tl := [_]) rfl ?_
          go_wp2
          have e1 : puts V5 V1.heap.size 0 [.bool false, .bool bL, .bool true, .bool bE] = ((((V5.setCell ⟨V1.heap.size, 0, none⟩ (.bool false)).setCell ⟨V1.heap.size, 1, none⟩ (.bool bL)).setCell ⟨V1.heap.size, 2, none⟩ (.bool true)).setCell ⟨V1.heap.size, 3, none⟩ (.bool bE)) := rfl
          have r1 := hA5.put_eq [.bool false, .bool bL, .bool true, .bool bE] e1 rfl
          have b1 := bel_put_eq [.bool false, .bool bL, .bool true, .bool bE] e1
          have hbf := hb5.trans (Dr.Bel.old (n := w.heap.size) b1 (hb5.size) (by simpa using hAg))
          clear e1 b1 z0 z1 z2 z3 f0 f1 f2 f3
          generalize ((((V5.setCell ⟨V1.heap.size, 0, none⟩ (.bool false)).setCell ⟨V1.heap.size, 1, none⟩ (.bool bL)).setCell ⟨V1.heap.size, 2, none⟩ (.bool true)).setCell ⟨V1.heap.size, 3, none⟩ (.bool bE)) = Vf at *
          go_meet
          case rel => exact ⟨_, rfl, r1, hbf⟩
  case rest =>
    obtain ⟨B, rfl, hB, hb⟩ := hcut
    have z0 : wc.cell? ⟨B, 0, none⟩ = _ := hB.cell (i := 0) rfl
    have z1 : wc.cell? ⟨B, 1, none⟩ = _ := hB.cell (i := 1) rfl
    have z2 : wc.cell? ⟨B, 2, none⟩ = _ := hB.cell (i := 2) rfl
    have z3 : wc.cell? ⟨B, 3, none⟩ = _ := hB.cell (i := 3) rfl
    clear hB hb0 hS hP CE CL CT hL hT hl hi
    refine hKK _ _ ?_
    clear hKK
    have ix0 : ∀ w, (Instr.index 131 (.agg #[.bool false, .bool bL, .bool bT, .bool bE]) (.int .i64 0)).run Tryz.prog w = .ok (.bool false) w := fun _ => by kernel_rfl
    have ix1 : ∀ w, (Instr.index 131 (.agg #[.bool false, .bool bL, .bool bT, .bool bE]) (.int .i64 1)).run Tryz.prog w = .ok (.bool bL) w := fun _ => by kernel_rfl
    have ix2 : ∀ w, (Instr.index 131 (.agg #[.bool false, .bool bL, .bool bT, .bool bE]) (.int .i64 2)).run Tryz.prog w = .ok (.bool bT) w := fun _ => by kernel_rfl
    have ix3 : ∀ w, (Instr.index 131 (.agg #[.bool false, .bool bL, .bool bT, .bool bE]) (.int .i64 3)).run Tryz.prog w = .ok (.bool bE) w := fun _ => by kernel_rfl
    go_wp2
    refine wp_label ?_
    go_wp2
    go_loopw [6, 47] (fun a t wr => ∃ k : Nat, t = .int .i64 k ∧ a = .int .u8 0 ∧ k ≤ 4 ∧ (2 ≤ k → bL = false) ∧ (3 ≤ k → bT = false) ∧ (4 ≤ k → bE = false) ∧ wr = wc) (fun _ t _ => 4 - (intOf t).toNat)
    case atStart => exact ⟨0, rfl, rfl, by omega, by omega, by omega, by omega, rfl⟩
    case round =>
      obtain ⟨k, rfl, rfl, hk, k1, k2, k3, rfl⟩ := hrel
      have hkk : k = 0 ∨ k = 1 ∨ k = 2 ∨ k = 3 ∨ k = 4 := by omega
      rcases hkk with rfl | rfl | rfl | rfl | rfl
      · rw [show ((0 : Nat) : Int) = 0 from rfl]
        go_wp2
        go_roundw
        case rel => exact ⟨1, by go_num, rfl, by omega, by simp⟩
        case measure => simp [intOf]
      · cases bL
        · go_wp2
          go_roundw
          case rel => exact ⟨2, by go_num, rfl, by omega, by simp⟩
          case measure => simp [intOf]
        · go_wp2
          rw [← hrb]
          exact ⟨rfl, hb⟩
      · obtain rfl := k1 (by omega)
        cases bT
        · go_wp2
          go_roundw
          case rel => exact ⟨3, by go_num, rfl, by omega, by simp⟩
          case measure => simp [intOf]
        · go_wp2
          rw [← hrb]
          exact ⟨rfl, hb⟩
      · obtain rfl := k1 (by omega)
        obtain rfl := k2 (by omega)
        cases bE
        · go_wp2
          go_roundw
          case rel => exact ⟨4, by go_num, rfl, by omega, by simp⟩
          case measure => simp [intOf]
        · go_wp2
          rw [← hrb]
          exact ⟨rfl, hb⟩
      · obtain rfl := k1 (by omega)
        obtain rfl := k2 (by omega)
        obtain rfl := k3 (by omega)
        go_wp2
        rw [← hrb]
        exact ⟨rfl, hb⟩
end Go.Proofs.YtilkoooahoecfaaGreat

/- Walk: ProveClimb. (Printed by mk_clbs.py.) -/
import Derived.Test.YtbpmfaibcibleaaClbS
namespace Go.Wg
/-- does a climb show that nothing can be loaded? -/
def proveB (j : Lo) (ts : List Th) (l : List Int) : Bool := decide (checkE j ts = 0) && decide (j.lanes.length < l.length) && climbB ts l
end Go.Wg
namespace Go.Proofs.Ytbpmfaibcibleaa
open Go.RowKit Go.Bs Go.Wg Go.Pl Go.Sort
set_option maxRecDepth 100000 in
set_option maxHeartbeats 4000000 in
theorem ProveClimb_any (v : JbV) (ts : List Th) (A : Option Addr) (n c : Nat) (l : List Int) (w : World) (hsl : v.x.l.lanes.length ≤ 9223372036854775807) (hst : ts.length ≤ 9223372036854775807) (hlc : Cells w v.x.A 1 Go.Bs.encI v.x.l.lanes) (ht : Cells w v.T 4 Th.enc ts) (hl : l.length = n) (hn : n ≤ 1000000000) (hd : Cells w A 1 Go.Bs.encI l) :
    Calls Try.prog 43 #[LoV.val v.x, .slice v.T ts.length v.cT, .slice A n c] w fun e w' => e = .returned (.bool (proveB v.x.l ts l)) ∧ Below w.heap.size w w' := by
  have Hl := Lib.hid hl
  have C1 := Lib.hid (fun V (hV : Below w.heap.size w V) => check_any v ts V hsl hst (hlc.ext hV) (ht.ext hV))
  generalize hres : proveB v.x.l ts l = res
  unfold proveB at hres
  rw [hl] at hres
  have Hres := Lib.hid hres
  have HT := Lib.hid ht
  have HD := Lib.hid hd
  have hb0 := ext_alloc w (.cells (LoV.enc v.x).toArray 44)
  have hP := Blk.new w 44 (LoV.enc v.x)
  clear hlc ht hd hres hl
  unfold LoV.val
  unfold LoV.enc at *
  go_enter Try.func43, Try.ntmps43
  go_upto_region 1 with fail
  change Blk (w.alloc (.cells #[.slice v.x.A v.x.l.lanes.length v.x.c, .int .i64 v.x.l.height, .int .i64 v.x.l.carries, .int .i64 v.x.l.empty, .int .i64 v.x.l.rear, .int .i64 v.x.l.axle, .int .i64 v.x.l.deck] 44)) _ _ _ at hP
  change Below w.heap.size w (w.alloc (.cells #[.slice v.x.A v.x.l.lanes.length v.x.c, .int .i64 v.x.l.height, .int .i64 v.x.l.carries, .int .i64 v.x.l.empty, .int .i64 v.x.l.rear, .int .i64 v.x.l.axle, .int .i64 v.x.l.deck] 44)) at hb0
  generalize w.alloc (.cells #[.slice v.x.A v.x.l.lanes.length v.x.c, .int .i64 v.x.l.height, .int .i64 v.x.l.carries, .int .i64 v.x.l.empty, .int .i64 v.x.l.rear, .int .i64 v.x.l.axle, .int .i64 v.x.l.deck] 44) = W0 at *
  have q0 : W0.cell? ⟨w.heap.size, 0, none⟩ = _ := hP.cell rfl
  have q1 : W0.cell? ⟨w.heap.size, 1, none⟩ = _ := hP.cell rfl
  have q2 : W0.cell? ⟨w.heap.size, 2, none⟩ = _ := hP.cell rfl
  have q3 : W0.cell? ⟨w.heap.size, 3, none⟩ = _ := hP.cell rfl
  have q4 : W0.cell? ⟨w.heap.size, 4, none⟩ = _ := hP.cell rfl
  have q5 : W0.cell? ⟨w.heap.size, 5, none⟩ = _ := hP.cell rfl
  have q6 : W0.cell? ⟨w.heap.size, 6, none⟩ = _ := hP.cell rfl
  have D1 := Lib.hid (C1.out W0 hb0)
  unfold LoV.val at D1
  refine wp_scope_straight ?_
  generalize hce : checkE v.x.l ts = ce at *
  have Hce := Lib.hid hce
  clear hce
  go_wp2_with fail
  refine (D1.out).mono ?_; rintro e W1 ⟨rfl, hx1⟩
  have hb1 := ext_trans hb0 hx1
  have hP1 := hP.ext hx1
  clear q0 q1 q2 q3 q4 q5 q6
  clear D1 hb0 hP hx1 C1
  by_cases h0 : ce = 0
  case neg =>
    have h00 : (ce != 0) = true := by rw [bne_iff_ne]; exact h0
    have Hr := Lib.hid (show false = res by rw [← Hres.out, decide_eq_false h0]; rfl)
    clear h0
    go_wp2
    try rw [Exit.noGoto_ret]
    go_ret
    exact ⟨ret_congr (bool_congr Hr.out), hb1⟩
  case pos =>
  subst h0
  have h00 : ((0 : Int) != 0) = false := rfl
  obtain ⟨hlo, h14, hok⟩ := checkE_zero.1 Hce.out
  have hlm := hlo.many
  have q0 := hP1.cell (i := 0) rfl
  have hPl := hP1.lt
  generalize hln : v.x.l.lanes.length = ln at *
  by_cases hlong : ln < n
  case neg =>
    have hlong' : (n : Int) ≤ (ln : Int) := by omega
    have Hr := Lib.hid (show false = res by rw [← Hres.out, decide_eq_false hlong, Bool.and_false]; rfl)
    clear hlong
    go_wp2
    try rw [Exit.noGoto_ret]
    go_ret
    exact ⟨ret_congr (bool_congr Hr.out), hb1⟩
  case pos =>
  have hlong' : ¬ (n : Int) ≤ (ln : Int) := by omega
  have hlong2 : ¬ n ≤ ln := by omega
  have Hq := Lib.hid (show climbB ts l = res by rw [← Hres.out, decide_eq_true hlong]; simp)
  have Hyes := Lib.hid (show ClTo ts l n → true = res from fun h => by rw [← Hq.out, clTo_end.1 (by rw [Hl.out]; exact h)])
  have Hno := Lib.hid (show ∀ k, k ≤ n → ¬ ClTo ts l k → false = res from fun k hk h => by
    rw [← Hq.out]; symm; rw [Bool.eq_false_iff]
    intro e
    have h5 := clTo_end.2 e
    rw [Hl.out] at h5
    exact h (clTo_take h5 k hk))
  generalize hm : ts.length = m at *
  have Hm := Lib.hid hm
  clear Hres hln hlong hlm hlo hok hm
  go_wp2
  refine wp_label ?_
  clear q0
  have hts := HT.out.ext hb1
  have hds := HD.out.ext hb1
  go_wp2
  go_loopw [7, 8, 9, 24] (fun is s x t wr => ∃ k : Nat, is = .bool true ∧ t = .int .i64 k ∧ k ≤ n ∧ Hid (ClTo ts l k) ∧ Below W1.heap.size W1 wr) (fun _ _ _ t _ => n - (intOf t).toNat)
  case atStart => exact ⟨0, rfl, rfl, by omega, Lib.hid (clTo_zero ts l), Below.refl _ _⟩
  case round =>
    obtain ⟨k, rfl, rfl, hk, Hk, hb⟩ := hrel
    by_cases hlt : k < n
    · have hlt' : (k : Int) < n := by omega
      have hk1 : k < l.length := by rw [Hl.out]; exact hlt
      have hk0 : (0 : Int) ≤ k := by omega
      have hdw := (hds.ext hb)
      have htw := (hts.ext hb)
      obtain ⟨b, off, rfl, -, d0⟩ := hdw.at1 hk1 rfl
      obtain ⟨x, hxe⟩ : ∃ x, l[k] = x := ⟨_, rfl⟩
      have Hxe := Lib.hid hxe
      rw [hxe] at d0
      clear hxe
      have CI := Lib.hid (fun V => within_any x 0 ((m : Int) - 1) V)
      by_cases hin : 0 ≤ x ∧ x < m
      case neg =>
        have hbt : btw x 0 ((m : Int) - 1) = false := by simp [btw]; omega
        rw [hbt] at CI
        have Hr := Lib.hid (Hno.out (k + 1) (by omega) (fun h => hin (by
          have h5 := h.1 l[k] (by rw [List.mem_take_iff_getElem]; exact ⟨k, by omega, rfl⟩)
          rw [Hxe.out, Hm.out] at h5; exact h5)))
        have hbf := ext_trans hb1 hb
        clear hbt hin
        go_wp2_with fail
        refine (CI.out _).mono ?_; rintro e V1 ⟨rfl, rfl⟩
        go_wp2
        try rw [Exit.noGoto_ret]
        go_ret
        exact ⟨ret_congr (bool_congr Hr.out), hbf⟩
      case pos =>
      have hbt : btw x 0 ((m : Int) - 1) = true := by simp [btw]; omega
      rw [hbt] at CI
      clear hbt
      obtain ⟨j, rfl⟩ : ∃ j : Nat, x = j := ⟨x.toNat, by omega⟩
      have hjm : (j : Int) < (m : Int) := hin.2
      have hj0 : (0 : Int) ≤ (j : Int) := hin.1
      have hjt : j < ts.length := by rw [Hm.out]; omega
      have Hin := Lib.hid hin
      clear hin
      go_wp2_with fail
      refine (CI.out _).mono ?_; rintro e V1 ⟨rfl, rfl⟩
      clear CI
      go_upto_region 9 with fail
      refine Dr.wp_region_plan 29 [] (.q [0, 1, 2, 3, 4, 5, 6, 7, 8, 9, 10] (.q [11, 12, 13, 14, 15, 16, 17, 18, 19, 20] (.q [21, 22, 23, 24, 25, 26, 27, 28] .done))) (by kernel_rfl) (by kernel_rfl) ?_
      replace hb := hb.drew
      have hdv : Cells (World.drew wr) _ _ _ _ := hdw
      have htv : Cells (World.drew wr) _ _ _ _ := htw
      clear d0 hdw htw
      generalize World.drew wr = V at *
      by_cases hk00 : k = 0
      · subst hk00
        have H1 := Lib.hid ((clTo_one (ts := ts) hk1).2 (by rw [Hxe.out, Hm.out]; exact Hin.out))
        with_reducible refine Dr.plan_q (l := [_, _, _, _, _, _, _, _, _, _, _]) (by with_unfolding_all exact rfl) (fun K hK => ?_)
        iterate 11 (go_big_quiet_step (fail))
        refine wpQuiet_nil (hK _ ?_); clear hK K
        with_reducible refine Dr.plan_q (l := [_, _, _, _, _, _, _, _, _, _]) (by with_unfolding_all exact rfl) (fun K hK => ?_)
        iterate 10 (go_big_quiet_step (fail))
        refine wpQuiet_nil (hK _ ?_); clear hK K
        with_reducible refine Dr.plan_q (l := [_, _, _, _, _, _, _, _]) (by with_unfolding_all exact rfl) (fun K hK => ?_)
        iterate 8 (go_big_quiet_step (fail))
        refine wpQuiet_nil (hK _ ?_); clear hK K
        refine Dr.plan_end rfl ?_
        go_wp2
        go_roundw
        case rel => exact ⟨0 + 1, rfl, by go_num, by omega, H1, hb⟩
        case measure => simp [intOf]; omega
      · obtain ⟨u, rfl⟩ : ∃ u, k = u + 1 := ⟨k - 1, by omega⟩
        have hu1 : u < l.length := by omega
        have Hs := Lib.hid (clTo_succ (ts := ts) (l := l) (k := u) hk1)
        obtain ⟨b5, off5, eA5, -, d1⟩ := hdv.at1 hu1 rfl
        cases eA5
        have hx := Hk.out.1 l[u] (by rw [List.mem_take_iff_getElem]; exact ⟨u, by omega, rfl⟩)
        obtain ⟨i, hi⟩ : ∃ i : Nat, l[u] = i := ⟨l[u].toNat, by omega⟩
        rw [hi, Hm.out] at hx
        have him : (i : Int) < (m : Int) := hx.2
        have hi0 : (0 : Int) ≤ (i : Int) := hx.1
        have hit : i < ts.length := by rw [Hm.out]; omega
        rw [hi] at d1 Hs
        rw [Hxe.out, thAt_eq hit, thAt_eq hjt] at Hs
        clear hi hx
        have g1 := Dr.cell0 d1
        clear d1
        by_cases hij : i < j
        case neg =>
          have hji : (j : Int) ≤ (i : Int) := by omega
          have Hr := Lib.hid (Hno.out (u + 1 + 1) (by omega) (fun h => hij (by have := (Hs.out.1 h).2.2.1; omega)))
          have hbf := ext_trans hb1 hb
          clear hij
          with_reducible refine Dr.plan_q (l := [_, _, _, _, _, _, _, _, _, _, _]) (by with_unfolding_all exact rfl) (fun K hK => ?_)
          iterate 11 (go_big_quiet_step (fail))
          refine wpQuiet_nil (hK _ ?_); clear hK K
          with_reducible refine Dr.plan_q (l := [_, _, _, _, _, _, _, _, _, _]) (by with_unfolding_all exact rfl) (fun K hK => ?_)
          iterate 10 (go_big_quiet_step (fail))
          refine wpQuiet_nil (hK _ ?_); clear hK K
          with_reducible refine Dr.plan_q (l := [_, _, _, _, _, _, _, _]) (by with_unfolding_all exact rfl) (fun K hK => ?_)
          iterate 8 (go_big_quiet_step (fail))
          refine wpQuiet_nil (hK _ ?_); clear hK K
          refine Dr.plan_end rfl ?_
          go_wp2
          try rw [Exit.noGoto_ret]
          go_ret
          exact ⟨ret_congr (bool_congr Hr.out), hbf⟩
        case pos =>
        have hji : ¬ (j : Int) ≤ (i : Int) := by omega
        have hji2 : ¬ j ≤ i := by omega
        have hji3 : decide ((j : Int) ≤ (i : Int)) = false := decide_eq_false hji
        obtain ⟨b6, off6, eT6, -, -, -, -, d6⟩ := htv.at4 hit rfl
        obtain ⟨b7, off7, eT, -, -, -, -, d7⟩ := htv.at4 hjt rfl
        rw [eT] at eT6
        cases eT6
        have ET := Lib.hid eT
        rw [eT]
        clear eT
        generalize ts[i].need = ni at *
        generalize ts[j].need = nj at *
        have g2 := Dr.cell0 d6
        have g3 := Dr.cell0 d7
        clear d6 d7
        by_cases hnn : ni < nj
        · have hnn' : ¬ nj ≤ ni := by omega
          have H1 := Lib.hid (Hs.out.2 ⟨Hk.out, by rw [Hm.out]; exact Hin.out, by omega, hnn⟩)
          clear hnn hij
          with_reducible refine Dr.plan_q (l := [_, _, _, _, _, _, _, _, _, _, _]) (by with_unfolding_all exact rfl) (fun K hK => ?_)
          iterate 11 (go_big_quiet_step (fail))
          refine wpQuiet_nil (hK _ ?_); clear hK K
          with_reducible refine Dr.plan_q (l := [_, _, _, _, _, _, _, _, _, _]) (by with_unfolding_all exact rfl) (fun K hK => ?_)
          iterate 10 (go_big_quiet_step (fail))
          refine wpQuiet_nil (hK _ ?_); clear hK K
          with_reducible refine Dr.plan_q (l := [_, _, _, _, _, _, _, _]) (by with_unfolding_all exact rfl) (fun K hK => ?_)
          iterate 8 (go_big_quiet_step (fail))
          refine wpQuiet_nil (hK _ ?_); clear hK K
          refine Dr.plan_end rfl ?_
          clear g1 g2 g3
          go_wp2
          rw [← ET.out]
          go_roundw
          case rel => exact ⟨_, _, _, _, ⟨rfl, u + 1 + 1, by go_num, by omega, H1⟩, rfl, rfl, rfl, rfl, rfl, rfl⟩
          case measure => simp [intOf]; omega
        · have hnn' : nj ≤ ni := by omega
          have Hr := Lib.hid (Hno.out (u + 1 + 1) (by omega) (fun h => hnn (Hs.out.1 h).2.2.2))
          have hbf := ext_trans hb1 hb
          clear hnn hij
          with_reducible refine Dr.plan_q (l := [_, _, _, _, _, _, _, _, _, _, _]) (by with_unfolding_all exact rfl) (fun K hK => ?_)
          iterate 11 (go_big_quiet_step (fail))
          refine wpQuiet_nil (hK _ ?_); clear hK K
          with_reducible refine Dr.plan_q (l := [_, _, _, _, _, _, _, _, _, _]) (by with_unfolding_all exact rfl) (fun K hK => ?_)
          iterate 10 (go_big_quiet_step (fail))
          refine wpQuiet_nil (hK _ ?_); clear hK K
          with_reducible refine Dr.plan_q (l := [_, _, _, _, _, _, _, _]) (by with_unfolding_all exact rfl) (fun K hK => ?_)
          iterate 8 (go_big_quiet_step (fail))
          refine wpQuiet_nil (hK _ ?_); clear hK K
          refine Dr.plan_end rfl ?_
          clear g1 g2 g3
          go_wp2
          try rw [Exit.noGoto_ret]
          go_ret
          exact ⟨ret_congr (bool_congr Hr.out), hbf⟩
    · obtain rfl : k = n := by omega
      have Hr := Lib.hid (Hyes.out Hk.out)
      have hbf := ext_trans hb1 hb
      go_wp2
      try rw [Exit.noGoto_ret]
      go_ret
      exact ⟨ret_congr (bool_congr Hr.out), hbf⟩
end Go.Proofs.Ytbpmfaibcibleaa

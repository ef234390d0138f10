/- The law ProgrammeBest: its walk. -/
import Derived.Test.YtcnidhcdkbfpcaaPrlP
import Derived.Test.YtcnidhcdkbfpcaaPrlJ
import Derived.Test.YtcnidhcdkbfpcaaPrlB
namespace Go.Proofs.Ytcnidhcdkbfpcaa
open Go.RowKit Go.Bs Go.Pg Go.Pl Go.Sort
theorem rightE_prog {s : Sh} {l : List Int} (h : rightE s l = 0) : s.Ok ∧ ∃ k, l = toI k ∧ l.map Int.toNat = k ∧ k ∈ s.progs := by
  unfold rightE at h
  by_cases ha : askE s l = 0
  · obtain ⟨h1, h2⟩ := ask_zero ha
    have hok := Sh.ok_of h1
    obtain ⟨k, rfl, hk1, hk2, hk3⟩ := ord_nat h2
    rw [if_pos ha, toI_toNat] at h
    refine ⟨hok, k, rfl, toI_toNat k, (Sh.progs_iff hok).2 ⟨isOrd_iff.2 ⟨hk1, hk2, hk3⟩, ?_⟩⟩
    split at h
    · assumption
    · cases h
  · rw [if_neg ha] at h; exact absurd h ha
theorem prog_right {s : Sh} (hok : s.Ok) {k : List Nat} (h : k ∈ s.progs) : rightE s (toI k) = 0 := by
  obtain ⟨h1, h2⟩ := (Sh.progs_iff hok).1 h
  obtain ⟨h3, h4, h5⟩ := isOrd_iff.1 h1
  have ha : askE s (toI k) = 0 := by unfold askE; rw [Sh.ok_iff.2 hok, ord_toI h3 h4 h5]; rfl
  unfold rightE
  rw [if_pos ha, toI_toNat, if_pos h2]
/-- what is proved costs as much as the best -/
theorem prov_least {s : Sh} {l : List Int} {cost : Int} {T : List (List Int)} (h : provB s l cost T = true) {q : List Nat} (hq : s.solve = some q) : cost = s.least := by
  unfold provB at h
  simp only [Bool.and_eq_true, decide_eq_true_eq] at h
  obtain ⟨h1, h2, h3, h4⟩ := h
  obtain ⟨hok, k, -, hk, hp⟩ := rightE_prog h1
  rw [hk] at h2
  obtain ⟨h5, h6, -⟩ := Sh.solve_some hok hq
  have h7 := Sh.bound_le h3 h5
  have h8 := Sh.least_le hok hp
  omega
theorem prov_own {s : Sh} (hok : s.Ok) {q : List Nat} (hq : s.solve = some q) : provB s (toI q) s.least s.tabV = true := by
  obtain ⟨h5, h6, -⟩ := Sh.solve_some hok hq
  unfold provB
  rw [toI_toNat, prog_right hok h5, h6, Sh.tab_right hok, Sh.tab_bound]
  simp
set_option maxRecDepth 100000 in
set_option maxHeartbeats 10000000 in
theorem best_law (s : Sh) (p : ShP) (A : Option Addr) (n c : Nat) (l : List Int) (A2 : Option Addr) (n2 c2 : Nat) (l2 : List Int) (cost : Int) (B : Option Addr) (m d : Nat) (T : List (List Int)) (w : World) (h : ShW w s p) (hn : l.length = n) (hn9 : n ≤ 9223372036854775807) (hd : Cells w A 1 encI l)
    (hn2 : l2.length = n2) (hn29 : n2 ≤ 9223372036854775807) (hd2 : Cells w A2 1 encI l2) (hm : T.length = m) (hm9 : m ≤ 9223372036854775807) (hr : ∀ r ∈ T, r.length * 8 ≤ 140737488355328) (hT : TabA w B T) :
    Calls Try.prog 10 #[shV s p, .slice A n c, .slice A2 n2 c2, .int .i64 cost, .slice B m d] w fun e w' => e = .returned (.bool true) ∧ Below w.heap.size w w' := by
  have hb0 := ext_alloc w (.cells (shC s p).toArray 26)
  have hS := Blk.new w 26 (shC s p)
  have h0 := h.ext hb0
  have HA := Lib.hid (fun W (hW : Below w.heap.size w W) => And.intro (hd.ext hW) (And.intro (hd2.ext hW) (hT.ext hW)))
  have Hn := Lib.hid hn
  have Hn2 := Lib.hid hn2
  have Hm := Lib.hid hm
  have Hr := Lib.hid hr
  clear h hd hd2 hT hn hn2 hm hr
  unfold shV at *
  unfold shC at *
  go_enter Try.func10, Try.ntmps10
  go_upto_region 1 with fail
  change Blk (w.alloc (.cells #[.slice p.A s.acts.length p.cA, .slice p.R s.rest.length p.cR, .slice p.I s.ins.length p.cI, .slice p.O s.outs.length p.cO, .int .i64 s.cover, .int .i64 s.dull, .slice p.B s.before.length p.cB] 26)) _ _ _ at hS
  generalize w.alloc (.cells #[.slice p.A s.acts.length p.cA, .slice p.R s.rest.length p.cR, .slice p.I s.ins.length p.cI, .slice p.O s.outs.length p.cO, .int .i64 s.cover, .int .i64 s.dull, .slice p.B s.before.length p.cB] 26) = W0 at *
  have x0 : W0.cell? ⟨w.heap.size, 0, none⟩ = _ := hS.cell (i := 0) rfl
  have x1 : W0.cell? ⟨w.heap.size, 1, none⟩ = _ := hS.cell (i := 1) rfl
  have x2 : W0.cell? ⟨w.heap.size, 2, none⟩ = _ := hS.cell (i := 2) rfl
  have x3 : W0.cell? ⟨w.heap.size, 3, none⟩ = _ := hS.cell (i := 3) rfl
  have x4 : W0.cell? ⟨w.heap.size, 4, none⟩ = _ := hS.cell (i := 4) rfl
  have x5 : W0.cell? ⟨w.heap.size, 5, none⟩ = _ := hS.cell (i := 5) rfl
  have x6 : W0.cell? ⟨w.heap.size, 6, none⟩ = _ := hS.cell (i := 6) rfl
  go_wp2_with fail
  refine (Few_any s p W0 h0).mono ?_; rintro e W1 ⟨rfl, hb1⟩
  cases hf : s.fewB
  · clear x0 x1 x2 x3 x4 x5 x6
    go_wp2_with fail
    refine (wakes_any _).mono ?_; rintro e wz ⟨rfl, hbz⟩
    go_wp2
    go_ret
    exact ⟨rfl, ext_trans (ext_trans hb0 hb1) hbz⟩
  have hm1 := (h0.few hf).ext hb1
  have hS1 := hS.ext hb1
  have hbw := ext_trans hb0 hb1
  clear hb0 hb1 h0 hS hf x0 x1 x2 x3 x4 x5 x6
  have x0 : W1.cell? ⟨w.heap.size, 0, none⟩ = _ := hS1.cell (i := 0) rfl
  have x1 : W1.cell? ⟨w.heap.size, 1, none⟩ = _ := hS1.cell (i := 1) rfl
  have x2 : W1.cell? ⟨w.heap.size, 2, none⟩ = _ := hS1.cell (i := 2) rfl
  have x3 : W1.cell? ⟨w.heap.size, 3, none⟩ = _ := hS1.cell (i := 3) rfl
  have x4 : W1.cell? ⟨w.heap.size, 4, none⟩ = _ := hS1.cell (i := 4) rfl
  have x5 : W1.cell? ⟨w.heap.size, 5, none⟩ = _ := hS1.cell (i := 5) rfl
  have x6 : W1.cell? ⟨w.heap.size, 6, none⟩ = _ := hS1.cell (i := 6) rfl
  go_wp2_with fail
  refine (Right_any s p W1 hm1).mono ?_; rintro e W2 ⟨rfl, hb2⟩
  have hm2 := hm1.ext hb2
  have hS2 := hS1.ext hb2
  have hbw2 := ext_trans hbw hb2
  clear hm1 hS1 hbw hb2 x0 x1 x2 x3 x4 x5 x6
  cases hok : s.okB
  · clear hok
    go_wp2_with fail
    refine (wakes_any _).mono ?_; rintro e wz ⟨rfl, hbz⟩
    go_wp2
    go_ret
    exact ⟨rfl, ext_trans hbw2 hbz⟩
  have Hok := Lib.hid (Sh.ok_of hok)
  have n8 := Hok.out.n8
  clear hok
  have x0 : W2.cell? ⟨w.heap.size, 0, none⟩ = _ := hS2.cell (i := 0) rfl
  by_cases g1 : s.acts.length ≤ 6
  rotate_left
  · have g1' : (s.acts.length : Int) > 6 := by omega
    go_wp2_with fail
    refine (wakes_any _).mono ?_; rintro e wz ⟨rfl, hbz⟩
    go_wp2
    go_ret
    exact ⟨rfl, ext_trans hbw2 hbz⟩
  have g1' : ¬ (s.acts.length : Int) > 6 := by omega
  by_cases g2 : m ≤ 70
  rotate_left
  · have g2' : (m : Int) > 70 := by omega
    go_wp2_with fail
    refine (wakes_any _).mono ?_; rintro e wz ⟨rfl, hbz⟩
    go_wp2
    go_ret
    exact ⟨rfl, ext_trans hbw2 hbz⟩
  have g2' : ¬ (m : Int) > 70 := by omega
  by_cases g3 : n ≤ 12
  rotate_left
  · have g3' : (n : Int) > 12 := by omega
    go_wp2_with fail
    refine (wakes_any _).mono ?_; rintro e wz ⟨rfl, hbz⟩
    go_wp2
    go_ret
    exact ⟨rfl, ext_trans hbw2 hbz⟩
  have g3' : ¬ (n : Int) > 12 := by omega
  by_cases g4 : n2 ≤ 12
  rotate_left
  · have g4' : (n2 : Int) > 12 := by omega
    go_wp2_with fail
    refine (wakes_any _).mono ?_; rintro e wz ⟨rfl, hbz⟩
    go_wp2
    go_ret
    exact ⟨rfl, ext_trans hbw2 hbz⟩
  have g4' : ¬ (n2 : Int) > 12 := by omega
  go_upto_region 3 with fail
  clear x0 g1' g2' g3' g4' g1
  have x0 : W2.cell? ⟨w.heap.size, 0, none⟩ = _ := hS2.cell (i := 0) rfl
  have x1 : W2.cell? ⟨w.heap.size, 1, none⟩ = _ := hS2.cell (i := 1) rfl
  have x2 : W2.cell? ⟨w.heap.size, 2, none⟩ = _ := hS2.cell (i := 2) rfl
  have x3 : W2.cell? ⟨w.heap.size, 3, none⟩ = _ := hS2.cell (i := 3) rfl
  have x4 : W2.cell? ⟨w.heap.size, 4, none⟩ = _ := hS2.cell (i := 4) rfl
  have x5 : W2.cell? ⟨w.heap.size, 5, none⟩ = _ := hS2.cell (i := 5) rfl
  have x6 : W2.cell? ⟨w.heap.size, 6, none⟩ = _ := hS2.cell (i := 6) rfl
  go_wp2_with fail
  refine (Show_any s p W2 hm2).mono ?_; rintro e W3 ⟨⟨p1, rfl, hm3⟩, hb3⟩
  clear x0 x1 x2 x3 x4 x5 x6
  have hbw3 := ext_trans hbw2 hb3
  have hY : Blk (W3.alloc (.cells #[.slice p1.A s.acts.length p1.cA, .slice p1.R s.rest.length p1.cR, .slice p1.I s.ins.length p1.cI, .slice p1.O s.outs.length p1.cO, .int .i64 s.cover, .int .i64 s.dull, .slice p1.B s.before.length p1.cB] 35)) W3.heap.size 35 (shC s p1) := Blk.new W3 35 (shC s p1)
  have hAl := ext_alloc W3 (.cells #[.slice p1.A s.acts.length p1.cA, .slice p1.R s.rest.length p1.cR, .slice p1.I s.ins.length p1.cI, .slice p1.O s.outs.length p1.cO, .int .i64 s.cover, .int .i64 s.dull, .slice p1.B s.before.length p1.cB] 35)
  have hm4 := hm3.ext hAl
  have hbw4 := ext_trans hbw3 hAl
  clear hm2 hS2 hbw2 hb3 hm3 hbw3 hAl
  unfold shV
  unfold shC at hY
  go_upto_region 4 with fail
  generalize W3.heap.size = X at *
  generalize W3.alloc (.cells #[.slice p1.A s.acts.length p1.cA, .slice p1.R s.rest.length p1.cR, .slice p1.I s.ins.length p1.cI, .slice p1.O s.outs.length p1.cO, .int .i64 s.cover, .int .i64 s.dull, .slice p1.B s.before.length p1.cB] 35) = W4 at *
  have x0 : W4.cell? ⟨X, 0, none⟩ = _ := hY.cell (i := 0) rfl
  have x1 : W4.cell? ⟨X, 1, none⟩ = _ := hY.cell (i := 1) rfl
  have x2 : W4.cell? ⟨X, 2, none⟩ = _ := hY.cell (i := 2) rfl
  have x3 : W4.cell? ⟨X, 3, none⟩ = _ := hY.cell (i := 3) rfl
  have x4 : W4.cell? ⟨X, 4, none⟩ = _ := hY.cell (i := 4) rfl
  have x5 : W4.cell? ⟨X, 5, none⟩ = _ := hY.cell (i := 5) rfl
  have x6 : W4.cell? ⟨X, 6, none⟩ = _ := hY.cell (i := 6) rfl
  go_wp2_with fail
  refine (Best_any s p1 W4 hm4).mono ?_; rintro e W5 ⟨v, rfl, hb5, hcase⟩
  obtain ⟨vs, le, vt, ee, rfl, hcs⟩ : ∃ vs le vt ee, v = .tuple #[vs, .int .i64 le, vt, .int .i64 ee] ∧ ((ee = 7 ∧ s.solve = none) ∨ (ee = 0 ∧ ∃ q hi, s.solve = some q ∧ le = s.least ∧ OwnL W5 W4.heap.size 3 1 encI vs (toI q) ∧ TabM W5 W4.heap.size hi vt s.tabV)) := by
    rcases hcase with ⟨h1, -⟩ | ⟨-, hso, rfl⟩ | ⟨-, q, sl, tv, hi, hso, hsl, htv, rfl⟩
    · rw [Sh.ok_iff.2 Hok.out] at h1; cases h1
    · exact ⟨_, _, _, _, rfl, .inl ⟨rfl, hso⟩⟩
    · exact ⟨_, _, _, _, rfl, .inr ⟨rfl, q, hi, hso, rfl, hsl, htv⟩⟩
  have Hcs := Lib.hid hcs
  clear hcase hcs
  have HE := Lib.hid (fun W (hW : Below W5.heap.size W5 W) => And.intro ((hm4.ext hb5).ext hW) (And.intro ((hY.ext hb5).ext hW) (ext_trans (ext_trans hbw4 hb5) hW)))
  clear hm4 hY hbw4 hb5 x0 x1 x2 x3 x4 x5 x6
  go_upto_region 5 with fail
  refine Dr.wp_region_plan 9 [] (.q [0, 1] (.e1 2 (.e1 3 (.q [4, 5, 6, 7, 8] .done)))) (by kernel_rfl) (by kernel_rfl) ?_
  have hbd := (Below.refl W5.heap.size W5).drew
  generalize World.drew _ = V0 at *
  obtain ⟨e1, e2, e3⟩ := HE.out V0 hbd
  have q0 := Dr.cell0 (e2.cell (i := 0) rfl)
  have q1 := Dr.cell0 (e2.cell (i := 1) rfl)
  have q2 := Dr.cell0 (e2.cell (i := 2) rfl)
  have q3 := Dr.cell0 (e2.cell (i := 3) rfl)
  have q4 := Dr.cell0 (e2.cell (i := 4) rfl)
  have q5 := Dr.cell0 (e2.cell (i := 5) rfl)
  have q6 := Dr.cell0 (e2.cell (i := 6) rfl)
  have CL := Lib.hid (list_any A n c l V0 Hn.out (by omega) (HA.out V0 e3).1)
  clear e1 e2 e3
  refine Dr.plan_q (l := [_, _]) rfl (fun K hK => ?_)
  iterate 2 (go_big_quiet_step (fail))
  refine wpQuiet_nil (hK _ ?_); clear hK K q0 q1 q2 q3 q4 q5 q6
  refine Dr.plan_e rfl (by rfl) (fun K hK => ?_)
  go_wp2_with fail
  refine CL.out.mono ?_; rintro e V1 ⟨vl, rfl, ⟨A5, c5, rfl, -, -, hd5, -⟩, hb6⟩
  rw [Hn.out]
  refine hK _ _ (.of hb6) ?_; clear hK K CL
  have hbd1 := hbd.trans (hb6.mono hbd.size)
  have CC := Lib.hid (Cost_any s p1 A5 n c5 l V1 (HE.out V1 hbd1).1 Hn.out g3 hd5)
  clear hbd hb6 hd5
  refine Dr.plan_e rfl (by rfl) (fun K hK => ?_)
  go_wp2_with fail
  refine CC.out.mono ?_; rintro e V2 ⟨⟨x, g, rfl, hg, -, hg1⟩, hb7⟩
  have Hg := Lib.hid hg
  have Hg1 := Lib.hid hg1
  clear hg hg1
  refine hK _ _ (.of hb7) ?_; clear hK K CC
  have hbd2 := hbd1.trans (hb7.mono hbd1.size)
  clear hbd1 hb7
  refine Dr.plan_q (l := [_, _, _, _, _]) rfl (fun K hK => ?_)
  iterate 5 (go_big_quiet_step (fail))
  refine wpQuiet_nil (hK _ ?_); clear hK K
  refine Dr.plan_end rfl ?_
  rcases Hcs.out with ⟨rfl, hso⟩ | ⟨rfl, q, hi, hso, rfl, hsl, htv⟩
  · have hgn : g ≠ 0 := fun h0 => by
      obtain ⟨hok, k, -, -, hp⟩ := rightE_prog (Hg.out.symm.trans h0)
      rw [(Sh.solve_none hok).1 hso] at hp
      simp at hp
    have hgn' : (g != 0) = true := by simp [hgn]
    obtain ⟨-, -, hbw⟩ := HE.out V2 hbd2
    clear hso Hcs
    go_wp2_with fail
    refine (wakes_any _).mono ?_; rintro e wz ⟨rfl, hbz⟩
    go_wp2
    go_ret
    exact ⟨rfl, ext_trans hbw hbz⟩
  clear Hcs
  have Hso := Lib.hid hso
  obtain ⟨A7, c7, rfl, hta⟩ := htv.toA
  obtain ⟨A8, c8, rfl, -, -, hcl⟩ := hsl.cells encI_len
  rw [toI_len]
  have hss := Sh.solve_some Hok.out hso
  have hql := Sh.progs_len Hok.out hss.1
  have Hpr := Lib.hid (prog_right Hok.out hss.1)
  have Hco := Lib.hid hss.2.1
  have Hpo := Lib.hid (prov_own Hok.out hso)
  have Hpl := Lib.hid (fun h => prov_least (s := s) (l := l2) (cost := cost) (T := T) h hso)
  have Hlt := Lib.hid (show g = 0 → ¬ x < s.least from fun h0 => by
    obtain ⟨hok, k, -, hk, hp⟩ := rightE_prog (Hg.out.symm.trans h0)
    have h1 := Hg1.out h0
    rw [hk] at h1
    have := Sh.least_le hok hp
    omega)
  have hq12 : q.length ≤ 12 := by omega
  have hwl : s.tabV.length = s.whole + 1 := by unfold Sh.tabV; simp
  have htl : s.tabV.length ≤ 1000 := by
    rw [hwl]
    unfold Sh.whole
    have := pow_le8 n8
    omega
  have Hrl := Lib.hid (show ∀ r ∈ s.tabV, r.length ≤ 1000 from fun r hr => by
    unfold Sh.tabV at hr
    obtain ⟨t, -, rfl⟩ := List.mem_map.1 hr
    unfold Sh.rowV
    have := Nat.mul_le_mul n8 n8
    simp; omega)
  have Hcl := Lib.hid hcl
  have Hta := Lib.hid hta
  clear hso htv hsl hss hql hwl hcl hta Hg Hg1
  generalize s.least = le at *
  go_upto_region 8 with fail
  refine Dr.wp_region_plan 9 [] (.q [0, 1] (.e1 2 (.e1 3 (.q [4, 5, 6, 7, 8] .done)))) (by kernel_rfl) (by kernel_rfl) ?_
  have hbd := hbd2.drew
  clear hbd2
  generalize World.drew _ = V3 at *
  obtain ⟨e1, e2, e3⟩ := HE.out V3 hbd
  have q0 := Dr.cell0 (e2.cell (i := 0) rfl)
  have q1 := Dr.cell0 (e2.cell (i := 1) rfl)
  have q2 := Dr.cell0 (e2.cell (i := 2) rfl)
  have q3 := Dr.cell0 (e2.cell (i := 3) rfl)
  have q4 := Dr.cell0 (e2.cell (i := 4) rfl)
  have q5 := Dr.cell0 (e2.cell (i := 5) rfl)
  have q6 := Dr.cell0 (e2.cell (i := 6) rfl)
  have CL := Lib.hid (list_any A8 q.length c8 (toI q) V3 (toI_len q) (by omega) (Hcl.out.ext hbd))
  clear e1 e2 e3
  refine Dr.plan_q (l := [_, _]) rfl (fun K hK => ?_)
  iterate 2 (go_big_quiet_step (fail))
  refine wpQuiet_nil (hK _ ?_); clear hK K q0 q1 q2 q3 q4 q5 q6
  refine Dr.plan_e rfl (by rfl) (fun K hK => ?_)
  go_wp2_with fail
  refine CL.out.mono ?_; rintro e V4 ⟨vl, rfl, ⟨A6, c6, rfl, -, -, hd6, -⟩, hb6⟩
  rw [toI_len]
  refine hK _ _ (.of hb6) ?_; clear hK K CL
  have hbd1 := hbd.trans (hb6.mono hbd.size)
  have CC := Lib.hid (Cost_any s p1 A6 q.length c6 (toI q) V4 (HE.out V4 hbd1).1 (toI_len q) hq12 hd6)
  clear hbd hb6 hd6
  refine Dr.plan_e rfl (by rfl) (fun K hK => ?_)
  go_wp2_with fail
  refine CC.out.mono ?_; rintro e V5 ⟨⟨x3, g3', rfl, hg, -, hg1⟩, hb7⟩
  refine hK _ _ (.of hb7) ?_; clear hK K CC
  rw [Hpr.out] at hg
  subst hg
  have hx3 := hg1 rfl
  rw [toI_toNat, Hco.out] at hx3
  subst hx3
  clear hg1
  have hbd2 := hbd1.trans (hb7.mono hbd1.size)
  clear hbd1 hb7
  refine Dr.plan_q (l := [_, _, _, _, _]) rfl (fun K hK => ?_)
  iterate 5 (go_big_quiet_step (fail))
  refine wpQuiet_nil (hK _ ?_); clear hK K
  refine Dr.plan_end rfl ?_
  go_upto_region 9 with fail
  refine Dr.wp_region_plan 26 [] (.q [0, 1, 2, 3, 4, 5, 6, 7, 8, 9, 11, 12] (.e1 10 (.e1 13 (.e1 14 (.q [15, 16, 17, 18, 19, 20, 21, 22, 23, 24, 25] .done))))) (by kernel_rfl) (by kernel_rfl) ?_
  have hbd := hbd2.drew
  clear hbd2
  generalize World.drew _ = V6 at *
  obtain ⟨e1, e2, e3⟩ := HE.out V6 hbd
  have q0 := Dr.cell0 (e2.cell (i := 0) rfl)
  have q1 := Dr.cell0 (e2.cell (i := 1) rfl)
  have q2 := Dr.cell0 (e2.cell (i := 2) rfl)
  have q3 := Dr.cell0 (e2.cell (i := 3) rfl)
  have q4 := Dr.cell0 (e2.cell (i := 4) rfl)
  have q5 := Dr.cell0 (e2.cell (i := 5) rfl)
  have q6 := Dr.cell0 (e2.cell (i := 6) rfl)
  have CL := Lib.hid (list_any A8 q.length c8 (toI q) V6 (toI_len q) (by omega) (Hcl.out.ext hbd))
  clear e1 e2 e3
  refine Dr.plan_q (l := [_, _, _, _, _, _, _, _, _, _, _, _]) rfl (fun K hK => ?_)
  iterate 12 (go_big_quiet_step (fail))
  refine wpQuiet_nil (hK _ ?_); clear hK K q0 q1 q2 q3 q4 q5 q6
  refine Dr.plan_e rfl (by rfl) (fun K hK => ?_)
  go_wp2_with fail
  refine CL.out.mono ?_; rintro e V7 ⟨vl, rfl, ⟨A6, c6, rfl, -, -, hd6, -⟩, hb6⟩
  rw [toI_len]
  refine hK _ _ (.of hb6) ?_; clear hK K CL
  have hbd1 := hbd.trans (hb6.mono hbd.size)
  have CRw := Lib.hid (rows_any A7 s.tabV.length c7 s.tabV V7 rfl htl Hrl.out (Hta.out.ext hbd1))
  clear hbd hb6
  refine Dr.plan_e rfl (by rfl) (fun K hK => ?_)
  go_wp2_with fail
  refine CRw.out.mono ?_; rintro e V8 ⟨⟨A9, c9, rfl, ht9⟩, hb7⟩
  refine hK _ _ (.of hb7) ?_; clear hK K CRw
  have hbd2 := hbd1.trans (hb7.mono hbd1.size)
  have CP := Prove_any s p1 A6 q.length c6 (toI q) x3 A9 s.tabV.length c9 s.tabV V8 (HE.out V8 hbd2).1 (toI_len q) hq12 (hd6.ext hb7) rfl (by omega) (fun r hr => by have := Hrl.out r hr; omega) ht9
  rw [Hpo.out] at CP
  have CP := Lib.hid CP
  clear hbd1 hb7 hd6 ht9
  refine Dr.plan_e rfl (by rfl) (fun K hK => ?_)
  go_wp2_with fail
  refine CP.out.mono ?_; rintro e V9 ⟨rfl, hb8⟩
  refine hK _ _ (.of hb8) ?_; clear hK K CP
  have hbd3 := hbd2.trans (hb8.mono hbd2.size)
  clear hbd2 hb8 Hcl Hta Hrl htl Hpo Hco Hpr
  have HV : ∀ K : Prop, K → K := fun _ h => h
  clear HV
  by_cases hg0 : g = 0
  · have hlt := Hlt.out hg0
    clear Hlt
    subst hg0
    refine Dr.plan_q (l := [_, _, _, _, _, _, _, _, _, _, _]) rfl (fun K hK => ?_)
    iterate 11 (go_big_quiet_step (fail))
    refine wpQuiet_nil (hK _ ?_); clear hK K
    refine Dr.plan_end rfl ?_
    go_upto_region 11 with fail
    refine Dr.wp_region_plan 17 [] (.q [0, 1, 3, 4] (.e1 2 (.e1 5 (.e1 6 (.q [7, 8, 9, 10, 11, 12, 13] (.e1 14 (.q [15, 16] .done))))))) (by kernel_rfl) (by kernel_rfl) ?_
    have hbd := hbd3.drew
    clear hbd3
    generalize World.drew _ = U0 at *
    obtain ⟨e1, e2, e3⟩ := HE.out U0 hbd
    have q0 := Dr.cell0 (e2.cell (i := 0) rfl)
    have q1 := Dr.cell0 (e2.cell (i := 1) rfl)
    have q2 := Dr.cell0 (e2.cell (i := 2) rfl)
    have q3 := Dr.cell0 (e2.cell (i := 3) rfl)
    have q4 := Dr.cell0 (e2.cell (i := 4) rfl)
    have q5 := Dr.cell0 (e2.cell (i := 5) rfl)
    have q6 := Dr.cell0 (e2.cell (i := 6) rfl)
    have CL := Lib.hid (list_any A2 n2 c2 l2 U0 Hn2.out (by omega) (HA.out U0 e3).2.1)
    have HT0 := Lib.hid (HA.out U0 e3).2.2
    clear e1 e2 e3
    refine Dr.plan_q (l := [_, _, _, _]) rfl (fun K hK => ?_)
    iterate 4 (go_big_quiet_step (fail))
    refine wpQuiet_nil (hK _ ?_); clear hK K q0 q1 q2 q3 q4 q5 q6
    refine Dr.plan_e rfl (by rfl) (fun K hK => ?_)
    go_wp2_with fail
    refine CL.out.mono ?_; rintro e U1 ⟨vl, rfl, ⟨A6', c6', rfl, -, -, hd6, -⟩, hb6⟩
    rw [Hn2.out]
    refine hK _ _ (.of hb6) ?_; clear hK K CL
    have hbd1 := hbd.trans (hb6.mono hbd.size)
    have CRw := Lib.hid (rows_wide B m d T U1 Hm.out (by omega) Hr.out (HT0.out.ext hb6))
    clear hbd hb6 HT0
    refine Dr.plan_e rfl (by rfl) (fun K hK => ?_)
    go_wp2_with fail
    refine CRw.out.mono ?_; rintro e U2 ⟨⟨A9', c9', rfl, ht9⟩, hb7⟩
    refine hK _ _ (.of hb7) ?_; clear hK K CRw
    have hbd2 := hbd1.trans (hb7.mono hbd1.size)
    have CP := Lib.hid (Prove_any s p1 A6' n2 c6' l2 cost A9' m c9' T U2 (HE.out U2 hbd2).1 Hn2.out g4 (hd6.ext hb7) Hm.out hm9 (fun r hr => by have := Hr.out r hr; omega) ht9)
    clear hbd1 hb7 hd6 ht9
    generalize provB s l2 cost T = pb at *
    refine Dr.plan_e rfl (by rfl) (fun K hK => ?_)
    go_wp2_with fail
    refine CP.out.mono ?_; rintro e U3 ⟨rfl, hb8⟩
    refine hK _ _ (.of hb8) ?_; clear hK K CP
    have hbd3 := hbd2.trans (hb8.mono hbd2.size)
    clear hbd2 hb8
    have CWk := Lib.hid (wakes_any U3)
    cases pb
    · refine Dr.plan_q (l := [_, _, _, _, _, _, _]) rfl (fun K hK => ?_)
      iterate 7 (go_big_quiet_step (fail))
      refine wpQuiet_nil (hK _ ?_); clear hK K
      refine Dr.plan_e rfl (by rfl) (fun K hK => ?_)
      go_wp2_with fail
      refine CWk.out.mono ?_; rintro e U4 ⟨rfl, hb9⟩
      refine hK _ _ (.of hb9) ?_; clear hK K CWk
      refine Dr.plan_q (l := [_, _]) rfl (fun K hK => ?_)
      iterate 2 (go_big_quiet_step (fail))
      refine wpQuiet_nil (hK _ ?_); clear hK K
      refine Dr.plan_end rfl ?_
      obtain ⟨-, -, hbw⟩ := HE.out U4 (hbd3.trans (hb9.mono hbd3.size))
      go_wp2
      go_ret
      exact ⟨rfl, hbw⟩
    · have hcl := Hpl.out rfl
      have hce : (cost == x3) = true := by simp [hcl]
      clear hcl
      refine Dr.plan_q (l := [_, _, _, _, _, _, _]) rfl (fun K hK => ?_)
      iterate 7 (go_big_quiet_step (fail))
      refine wpQuiet_nil (hK _ ?_); clear hK K
      refine Dr.plan_e rfl (by rfl) (fun K hK => ?_)
      go_wp2_with fail
      refine CWk.out.mono ?_; rintro e U4 ⟨rfl, hb9⟩
      refine hK _ _ (.of hb9) ?_; clear hK K CWk
      refine Dr.plan_q (l := [_, _]) rfl (fun K hK => ?_)
      iterate 2 (go_big_quiet_step (fail))
      refine wpQuiet_nil (hK _ ?_); clear hK K
      refine Dr.plan_end rfl ?_
      obtain ⟨-, -, hbw⟩ := HE.out U4 (hbd3.trans (hb9.mono hbd3.size))
      go_wp2
      go_ret
      exact ⟨rfl, hbw⟩
  · have hge : (g == 0) = false := by simp [hg0]
    clear Hlt
    refine Dr.plan_q (l := [_, _, _, _, _, _, _, _, _, _, _]) rfl (fun K hK => ?_)
    iterate 11 (go_big_quiet_step (fail))
    refine wpQuiet_nil (hK _ ?_); clear hK K
    refine Dr.plan_end rfl ?_
    go_upto_region 11 with fail
    refine Dr.wp_region_plan 17 [] (.q [0, 1, 3, 4] (.e1 2 (.e1 5 (.e1 6 (.q [7, 8, 9, 10, 11, 12, 13] (.e1 14 (.q [15, 16] .done))))))) (by kernel_rfl) (by kernel_rfl) ?_
    have hbd := hbd3.drew
    clear hbd3
    generalize World.drew _ = U0 at *
    obtain ⟨e1, e2, e3⟩ := HE.out U0 hbd
    have q0 := Dr.cell0 (e2.cell (i := 0) rfl)
    have q1 := Dr.cell0 (e2.cell (i := 1) rfl)
    have q2 := Dr.cell0 (e2.cell (i := 2) rfl)
    have q3 := Dr.cell0 (e2.cell (i := 3) rfl)
    have q4 := Dr.cell0 (e2.cell (i := 4) rfl)
    have q5 := Dr.cell0 (e2.cell (i := 5) rfl)
    have q6 := Dr.cell0 (e2.cell (i := 6) rfl)
    have CL := Lib.hid (list_any A2 n2 c2 l2 U0 Hn2.out (by omega) (HA.out U0 e3).2.1)
    have HT0 := Lib.hid (HA.out U0 e3).2.2
    clear e1 e2 e3
    refine Dr.plan_q (l := [_, _, _, _]) rfl (fun K hK => ?_)
    iterate 4 (go_big_quiet_step (fail))
    refine wpQuiet_nil (hK _ ?_); clear hK K q0 q1 q2 q3 q4 q5 q6
    refine Dr.plan_e rfl (by rfl) (fun K hK => ?_)
    go_wp2_with fail
    refine CL.out.mono ?_; rintro e U1 ⟨vl, rfl, ⟨A6', c6', rfl, -, -, hd6, -⟩, hb6⟩
    rw [Hn2.out]
    refine hK _ _ (.of hb6) ?_; clear hK K CL
    have hbd1 := hbd.trans (hb6.mono hbd.size)
    have CRw := Lib.hid (rows_wide B m d T U1 Hm.out (by omega) Hr.out (HT0.out.ext hb6))
    clear hbd hb6 HT0
    refine Dr.plan_e rfl (by rfl) (fun K hK => ?_)
    go_wp2_with fail
    refine CRw.out.mono ?_; rintro e U2 ⟨⟨A9', c9', rfl, ht9⟩, hb7⟩
    refine hK _ _ (.of hb7) ?_; clear hK K CRw
    have hbd2 := hbd1.trans (hb7.mono hbd1.size)
    have CP := Lib.hid (Prove_any s p1 A6' n2 c6' l2 cost A9' m c9' T U2 (HE.out U2 hbd2).1 Hn2.out g4 (hd6.ext hb7) Hm.out hm9 (fun r hr => by have := Hr.out r hr; omega) ht9)
    clear hbd1 hb7 hd6 ht9
    generalize provB s l2 cost T = pb at *
    refine Dr.plan_e rfl (by rfl) (fun K hK => ?_)
    go_wp2_with fail
    refine CP.out.mono ?_; rintro e U3 ⟨rfl, hb8⟩
    refine hK _ _ (.of hb8) ?_; clear hK K CP
    have hbd3 := hbd2.trans (hb8.mono hbd2.size)
    clear hbd2 hb8
    have CWk := Lib.hid (wakes_any U3)
    cases pb
    · refine Dr.plan_q (l := [_, _, _, _, _, _, _]) rfl (fun K hK => ?_)
      iterate 7 (go_big_quiet_step (fail))
      refine wpQuiet_nil (hK _ ?_); clear hK K
      refine Dr.plan_e rfl (by rfl) (fun K hK => ?_)
      go_wp2_with fail
      refine CWk.out.mono ?_; rintro e U4 ⟨rfl, hb9⟩
      refine hK _ _ (.of hb9) ?_; clear hK K CWk
      refine Dr.plan_q (l := [_, _]) rfl (fun K hK => ?_)
      iterate 2 (go_big_quiet_step (fail))
      refine wpQuiet_nil (hK _ ?_); clear hK K
      refine Dr.plan_end rfl ?_
      obtain ⟨-, -, hbw⟩ := HE.out U4 (hbd3.trans (hb9.mono hbd3.size))
      go_wp2
      go_ret
      exact ⟨rfl, hbw⟩
    · have hcl := Hpl.out rfl
      have hce : (cost == x3) = true := by simp [hcl]
      clear hcl
      refine Dr.plan_q (l := [_, _, _, _, _, _, _]) rfl (fun K hK => ?_)
      iterate 7 (go_big_quiet_step (fail))
      refine wpQuiet_nil (hK _ ?_); clear hK K
      refine Dr.plan_e rfl (by rfl) (fun K hK => ?_)
      go_wp2_with fail
      refine CWk.out.mono ?_; rintro e U4 ⟨rfl, hb9⟩
      refine hK _ _ (.of hb9) ?_; clear hK K CWk
      refine Dr.plan_q (l := [_, _]) rfl (fun K hK => ?_)
      iterate 2 (go_big_quiet_step (fail))
      refine wpQuiet_nil (hK _ ?_); clear hK K
      refine Dr.plan_end rfl ?_
      obtain ⟨-, -, hbw⟩ := HE.out U4 (hbd3.trans (hb9.mono hbd3.size))
      go_wp2
      go_ret
      exact ⟨rfl, hbw⟩
end Go.Proofs.Ytcnidhcdkbfpcaa

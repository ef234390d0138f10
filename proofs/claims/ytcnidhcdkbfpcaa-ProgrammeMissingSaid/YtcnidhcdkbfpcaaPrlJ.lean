/- The law ProgrammeBests: its walk. -/
import Derived.Test.YtcnidhcdkbfpcaaPrlF
import Derived.Test.YtcnidhcdkbfpcaaPrlH
import Derived.Test.YtcnidhcdkbfpcaaPrlI
import Derived.Test.YtcnidhcdkbfpcaaPgH
namespace Go.Proofs.Ytcnidhcdkbfpcaa
open Go.RowKit Go.Bs Go.Pg Go.Pl Go.Sort
/-- a table just made can be read -/
theorem TabM.toA {W : World} {lo hi : Nat} {v : Value} {T : List (List Int)} (h : TabM W lo hi v T) : ∃ A c, v = .slice A T.length c ∧ TabA W A T := by
  obtain ⟨rs, h1, -, h3, h4⟩ := h
  obtain ⟨A, c, hv, -, -, hc⟩ := h1.cells encR_len
  rw [h3] at hv
  refine ⟨A, c, hv, (List.range T.length).map (fun i => ⟨T.getD i [], some ⟨(rs.getD i (0, 0)).1, 0, none⟩, (rs.getD i (0, 0)).2⟩), ?_, ?_, ?_⟩
  · rw [List.map_map]
    refine List.ext_getElem (by simp) (fun i h1 h2 => ?_)
    simp at h1
    simp [h1]
  · intro i x hx
    rw [List.getElem?_map] at hx
    obtain ⟨j, hj, rfl⟩ := Option.map_eq_some_iff.1 hx
    have hi : i < T.length ∧ j = i := by
      rw [List.getElem?_eq_some_iff] at hj
      obtain ⟨h5, h6⟩ := hj
      simp at h5 h6
      exact ⟨h5, h6.symm⟩
    obtain ⟨hi, rfl⟩ := hi
    have hr : j < rs.length := by omega
    obtain ⟨b, off, hA, hcell⟩ := hc j rs[j] (List.getElem?_eq_getElem hr)
    refine ⟨b, off, hA, fun q y hy => hcell q y ?_⟩
    have h5 := (h4 j hr hi).2.2.1
    have e1 : rs.getD j (0, 0) = rs[j] := by simp [hr]
    have e2 : T.getD j [] = T[j] := by simp [hi]
    rw [e1, e2] at hy
    unfold RwV.enc at hy
    unfold encR
    rw [h5]
    rw [h5] at hy
    exact hy
  · intro x hx
    obtain ⟨j, hj, rfl⟩ := List.mem_map.1 hx
    have hi : j < T.length := by simpa using hj
    have hr : j < rs.length := by omega
    have e1 : rs.getD j (0, 0) = rs[j] := by simp [hr]
    have e2 : T.getD j [] = T[j] := by simp [hi]
    show Cells W (some ⟨(rs.getD j (0, 0)).1, 0, none⟩) 1 encI (T.getD j [])
    rw [e1, e2]
    refine cells_of encI_len (h4 j hr hi).2.2.2 ?_
    induction T[j] with
    | nil => rfl
    | cons a l ih => simp [encI] at ih ⊢; exact ih
set_option maxRecDepth 100000 in
set_option maxHeartbeats 10000000 in
theorem bests_law (s : Sh) (p : ShP) (w : World) (h : ShW w s p) :
    Calls Try.prog 3 #[shV s p] w fun e w' => e = .returned (.bool true) ∧ Below w.heap.size w w' := by
  have hb0 := ext_alloc w (.cells (shC s p).toArray 26)
  have hS := Blk.new w 26 (shC s p)
  have h0 := h.ext hb0
  clear h
  unfold shV at *
  unfold shC at *
  go_enter Try.func3, Try.ntmps3
  go_upto_region 1 with fail
  change Blk (w.alloc (.cells #[.slice p.A s.acts.length p.cA, .slice p.R s.rest.length p.cR, .slice p.I s.ins.length p.cI, .slice p.O s.outs.length p.cO, .int .i64 s.cover, .int .i64 s.dull, .slice p.B s.before.length p.cB] 26)) _ _ _ at hS
  generalize w.alloc (.cells #[.slice p.A s.acts.length p.cA, .slice p.R s.rest.length p.cR, .slice p.I s.ins.length p.cI, .slice p.O s.outs.length p.cO, .int .i64 s.cover, .int .i64 s.dull, .slice p.B s.before.length p.cB] 26) = W0 at *
  have HL := Lib.hid (light_any s p W0 h0)
  generalize hlt : (s.fewB && (decide (s.acts.length ≤ 5) || decide (8 < s.acts.length))) = lt at *
  have x0 : W0.cell? ⟨w.heap.size, 0, none⟩ = _ := hS.cell (i := 0) rfl
  have x1 : W0.cell? ⟨w.heap.size, 1, none⟩ = _ := hS.cell (i := 1) rfl
  have x2 : W0.cell? ⟨w.heap.size, 2, none⟩ = _ := hS.cell (i := 2) rfl
  have x3 : W0.cell? ⟨w.heap.size, 3, none⟩ = _ := hS.cell (i := 3) rfl
  have x4 : W0.cell? ⟨w.heap.size, 4, none⟩ = _ := hS.cell (i := 4) rfl
  have x5 : W0.cell? ⟨w.heap.size, 5, none⟩ = _ := hS.cell (i := 5) rfl
  have x6 : W0.cell? ⟨w.heap.size, 6, none⟩ = _ := hS.cell (i := 6) rfl
  go_wp2_with fail
  refine HL.out.mono ?_; rintro e W1 ⟨rfl, hb1⟩
  clear HL
  cases lt
  · clear x0 x1 x2 x3 x4 x5 x6 hlt
    go_wp2_with fail
    refine (wakes_any _).mono ?_; rintro e wz ⟨rfl, hbz⟩
    go_wp2
    go_ret
    exact ⟨rfl, ext_trans (ext_trans hb0 hb1) hbz⟩
  have hf : s.fewB = true := by
    cases hx : s.fewB
    · rw [hx] at hlt; cases hlt
    · rfl
  have hm := (h0.few hf).ext hb1
  have hS1 := hS.ext hb1
  have hbw := ext_trans hb0 hb1
  clear hb0 hb1 h0 hS hf hlt x0 x1 x2 x3 x4 x5 x6
  have x0 : W1.cell? ⟨w.heap.size, 0, none⟩ = _ := hS1.cell (i := 0) rfl
  have x1 : W1.cell? ⟨w.heap.size, 1, none⟩ = _ := hS1.cell (i := 1) rfl
  have x2 : W1.cell? ⟨w.heap.size, 2, none⟩ = _ := hS1.cell (i := 2) rfl
  have x3 : W1.cell? ⟨w.heap.size, 3, none⟩ = _ := hS1.cell (i := 3) rfl
  have x4 : W1.cell? ⟨w.heap.size, 4, none⟩ = _ := hS1.cell (i := 4) rfl
  have x5 : W1.cell? ⟨w.heap.size, 5, none⟩ = _ := hS1.cell (i := 5) rfl
  have x6 : W1.cell? ⟨w.heap.size, 6, none⟩ = _ := hS1.cell (i := 6) rfl
  go_wp2_with fail
  refine (Show_any s p W1 hm).mono ?_; rintro e W2 ⟨⟨p1, rfl, hm2⟩, hb2⟩
  go_wp2_with fail
  refine (Best_any s p1 W2 hm2).mono ?_; rintro e W3 ⟨v, rfl, hb3, hcase⟩
  have hb23 := ext_trans hb2 hb3
  have hm3 := hm.ext hb23
  have hS3 := hS1.ext hb23
  have hbw3 := ext_trans hbw hb23
  clear hm hS1 hbw hb2 hb3 hb23 hm2 x0 x1 x2 x3 x4 x5 x6
  have CR := Lib.hid (Right_any s p W3 hm3)
  have x0 : W3.cell? ⟨w.heap.size, 0, none⟩ = _ := hS3.cell (i := 0) rfl
  have x1 : W3.cell? ⟨w.heap.size, 1, none⟩ = _ := hS3.cell (i := 1) rfl
  have x2 : W3.cell? ⟨w.heap.size, 2, none⟩ = _ := hS3.cell (i := 2) rfl
  have x3 : W3.cell? ⟨w.heap.size, 3, none⟩ = _ := hS3.cell (i := 3) rfl
  have x4 : W3.cell? ⟨w.heap.size, 4, none⟩ = _ := hS3.cell (i := 4) rfl
  have x5 : W3.cell? ⟨w.heap.size, 5, none⟩ = _ := hS3.cell (i := 5) rfl
  have x6 : W3.cell? ⟨w.heap.size, 6, none⟩ = _ := hS3.cell (i := 6) rfl
  rcases hcase with ⟨hok, rfl⟩ | ⟨hok, hso, rfl⟩ | ⟨hok, l, sl, tv, hi, hso, hsl, htv, rfl⟩
  · rw [hok] at CR
    clear hok
    go_wp2_with fail
    refine CR.out.mono ?_; rintro e W4 ⟨rfl, hb4⟩
    go_wp2_with fail
    refine (wakes_any _).mono ?_; rintro e wz ⟨rfl, hbz⟩
    go_wp2
    go_ret
    exact ⟨rfl, ext_trans (ext_trans hbw3 hb4) hbz⟩
  · rw [hok] at CR
    have Hok := Lib.hid (Sh.ok_of hok)
    have Hso := Lib.hid hso
    clear hok hso
    go_wp2_with fail
    refine CR.out.mono ?_; rintro e W4 ⟨rfl, hb4⟩
    have hm4 := hm3.ext hb4
    have hS4 := hS3.ext hb4
    have hbw4 := ext_trans hbw3 hb4
    clear hm3 hS3 hbw3 hb4 CR x0 x1 x2 x3 x4 x5 x6
    have CB := RBest_any s p W4 hm4 Hok.out
    rw [Hso.out] at CB
    have CB := Lib.hid CB
    go_upto_region 6 with fail
    have x0 : W4.cell? ⟨w.heap.size, 0, none⟩ = _ := hS4.cell (i := 0) rfl
    have x1 : W4.cell? ⟨w.heap.size, 1, none⟩ = _ := hS4.cell (i := 1) rfl
    have x2 : W4.cell? ⟨w.heap.size, 2, none⟩ = _ := hS4.cell (i := 2) rfl
    have x3 : W4.cell? ⟨w.heap.size, 3, none⟩ = _ := hS4.cell (i := 3) rfl
    have x4 : W4.cell? ⟨w.heap.size, 4, none⟩ = _ := hS4.cell (i := 4) rfl
    have x5 : W4.cell? ⟨w.heap.size, 5, none⟩ = _ := hS4.cell (i := 5) rfl
    have x6 : W4.cell? ⟨w.heap.size, 6, none⟩ = _ := hS4.cell (i := 6) rfl
    go_wp2_with fail
    refine CB.out.mono ?_; rintro e W5 ⟨⟨v5, rfl, hv5⟩, hb5⟩
    have hv6 : v5 = .slice none 0 0 := hv5
    subst hv6
    clear hv5
    have he : ∀ w, (binOp .eql 23 (.slice none 0 0) (.slice none 0 0)).run Try.prog w = .ok (.bool true) w := fun _ => by kernel_rfl
    go_wp2_with fail
    refine (wakes_any _).mono ?_; rintro e wz ⟨rfl, hbz⟩
    go_wp2
    go_ret
    exact ⟨rfl, ext_trans (ext_trans hbw4 hb5) hbz⟩
  · rw [hok] at CR
    have Hok := Lib.hid (Sh.ok_of hok)
    have Hso := Lib.hid hso
    obtain ⟨A7, c7, rfl, hta⟩ := htv.toA
    obtain ⟨A8, c8, rfl, -, -, hcl⟩ := hsl.cells encI_len
    rw [toI_len]
    have hss := Sh.solve_some (Sh.ok_of hok) hso
    have hll := Sh.progs_len (Sh.ok_of hok) hss.1
    have hlx : ∀ i ∈ l, i < s.acts.length := by
      have := (isOrd_iff).1 ((Sh.progs_iff (Sh.ok_of hok)).1 hss.1).1
      exact this.2.1
    have hco : s.cost l = s.least := hss.2.1
    have hrt := Sh.tab_right (Sh.ok_of hok)
    have hbo := Sh.tab_bound (s := s)
    have hl8 : l.length ≤ 8 := by have := Hok.out.n8; omega
    have Hll := Lib.hid hll
    have Hlx := Lib.hid hlx
    have Hta := Lib.hid hta
    have Hcl := Lib.hid hcl
    have Hrt := Lib.hid hrt
    have Hbo := Lib.hid hbo
    have Hco := Lib.hid hco
    have hwl : s.tabV.length = s.whole + 1 := by unfold Sh.tabV; simp
    have htl : s.tabV.length ≤ 1000 := by
      rw [hwl]
      unfold Sh.whole
      have := pow_le8 Hok.out.n8
      omega
    have Hrl := Lib.hid (show ∀ r ∈ s.tabV, r.length ≤ 9223372036854775807 from fun r hr => by
      unfold Sh.tabV at hr
      obtain ⟨t, -, rfl⟩ := List.mem_map.1 hr
      unfold Sh.rowV
      have := Nat.mul_le_mul Hok.out.n8 Hok.out.n8
      simp; omega)
    clear hok hso hsl htv hta hcl hss hll hlx hrt hbo hco hwl
    generalize hle : s.least = le at *
    clear hle
    go_wp2_with fail
    refine CR.out.mono ?_; rintro e W4 ⟨rfl, hb4⟩
    have hm4 := hm3.ext hb4
    have hS4 := hS3.ext hb4
    have hbw4 := ext_trans hbw3 hb4
    have Hta4 := Lib.hid (Hta.out.ext hb4)
    have Hcl4 := Lib.hid (Hcl.out.ext hb4)
    clear hm3 hS3 hbw3 hb4 CR Hta Hcl x0 x1 x2 x3 x4 x5 x6
    have CB := RBest_any s p W4 hm4 Hok.out
    rw [Hso.out] at CB
    have CB := Lib.hid CB
    go_upto_region 6 with fail
    have x0 : W4.cell? ⟨w.heap.size, 0, none⟩ = _ := hS4.cell (i := 0) rfl
    have x1 : W4.cell? ⟨w.heap.size, 1, none⟩ = _ := hS4.cell (i := 1) rfl
    have x2 : W4.cell? ⟨w.heap.size, 2, none⟩ = _ := hS4.cell (i := 2) rfl
    have x3 : W4.cell? ⟨w.heap.size, 3, none⟩ = _ := hS4.cell (i := 3) rfl
    have x4 : W4.cell? ⟨w.heap.size, 4, none⟩ = _ := hS4.cell (i := 4) rfl
    have x5 : W4.cell? ⟨w.heap.size, 5, none⟩ = _ := hS4.cell (i := 5) rfl
    have x6 : W4.cell? ⟨w.heap.size, 6, none⟩ = _ := hS4.cell (i := 6) rfl
    go_wp2_with fail
    refine CB.out.mono ?_; rintro e W5 ⟨⟨v5, rfl, a5, c5, rfl, hc5⟩, hb5⟩
    have hm5 := hm4.ext hb5
    have hS5 := hS4.ext hb5
    have hbw5 := ext_trans hbw4 hb5
    have Hta5 := Lib.hid (Hta4.out.ext hb5)
    have hcl5 := Hcl4.out.ext hb5
    clear hm4 hS4 hbw4 hb5 CB Hta4 Hcl4 x0 x1 x2 x3 x4 x5 x6
    have he : ∀ w, (binOp .eql 23 (.slice (some a5) l.length c5) (.slice none 0 0)).run Try.prog w = .ok (.bool false) w := fun _ => by kernel_rfl
    go_upto_region 9 with fail
    clear he
    have CI := ints_any A8 (some a5) l.length l.length c8 c5 (toI l) (toI l) W5 (toI_len l) (toI_len l) (by omega) (by omega) hcl5 hc5
    rw [show decide (toI l = toI l) = true from decide_eq_true rfl] at CI
    have CI := Lib.hid CI
    have Hc5 := Lib.hid hc5
    clear hcl5 hc5
    go_wp2_with fail
    refine CI.out.mono ?_; rintro e W6 ⟨rfl, hb6⟩
    have hm6 := hm5.ext hb6
    have hS6 := hS5.ext hb6
    have hbw6 := ext_trans hbw5 hb6
    have Hta6 := Lib.hid (Hta5.out.ext hb6)
    have CC := RCost_any s p (some a5) l.length c5 l W6 hm6 Hok.out Hlx.out rfl (by omega) (Hc5.out.ext hb6)
    rw [Hco.out] at CC
    have CC := Lib.hid CC
    clear hm5 hS5 hbw5 hb6 CI Hta5 Hc5
    have x0 : W6.cell? ⟨w.heap.size, 0, none⟩ = _ := hS6.cell (i := 0) rfl
    have x1 : W6.cell? ⟨w.heap.size, 1, none⟩ = _ := hS6.cell (i := 1) rfl
    have x2 : W6.cell? ⟨w.heap.size, 2, none⟩ = _ := hS6.cell (i := 2) rfl
    have x3 : W6.cell? ⟨w.heap.size, 3, none⟩ = _ := hS6.cell (i := 3) rfl
    have x4 : W6.cell? ⟨w.heap.size, 4, none⟩ = _ := hS6.cell (i := 4) rfl
    have x5 : W6.cell? ⟨w.heap.size, 5, none⟩ = _ := hS6.cell (i := 5) rfl
    have x6 : W6.cell? ⟨w.heap.size, 6, none⟩ = _ := hS6.cell (i := 6) rfl
    go_wp2_with fail
    refine CC.out.mono ?_; rintro e W7 ⟨rfl, hb7⟩
    have hm7 := hm6.ext hb7
    have hS7 := hS6.ext hb7
    have hbw7 := ext_trans hbw6 hb7
    have Hta7 := Lib.hid (Hta6.out.ext hb7)
    have CT := RTable_any s p A7 s.tabV.length c7 s.tabV W7 hm7 Hok.out rfl (by omega) Hrl.out Hta7.out
    rw [Hrt.out] at CT
    have CT := Lib.hid CT
    clear hm6 hS6 hbw6 hb7 CC Hta6 x0 x1 x2 x3 x4 x5 x6
    have x0 : W7.cell? ⟨w.heap.size, 0, none⟩ = _ := hS7.cell (i := 0) rfl
    have x1 : W7.cell? ⟨w.heap.size, 1, none⟩ = _ := hS7.cell (i := 1) rfl
    have x2 : W7.cell? ⟨w.heap.size, 2, none⟩ = _ := hS7.cell (i := 2) rfl
    have x3 : W7.cell? ⟨w.heap.size, 3, none⟩ = _ := hS7.cell (i := 3) rfl
    have x4 : W7.cell? ⟨w.heap.size, 4, none⟩ = _ := hS7.cell (i := 4) rfl
    have x5 : W7.cell? ⟨w.heap.size, 5, none⟩ = _ := hS7.cell (i := 5) rfl
    have x6 : W7.cell? ⟨w.heap.size, 6, none⟩ = _ := hS7.cell (i := 6) rfl
    go_wp2_with fail
    refine CT.out.mono ?_; rintro e W8 ⟨rfl, hb8⟩
    have hm8 := hm7.ext hb8
    have hS8 := hS7.ext hb8
    have hbw8 := ext_trans hbw7 hb8
    have Hta8 := Lib.hid (Hta7.out.ext hb8)
    have CD := RBound_any s p A7 s.tabV.length c7 s.tabV W8 hm8 Hok.out rfl Hta8.out (by
      have := Hrt.out
      unfold Sh.rightT at this
      rw [Bool.and_eq_true] at this
      exact this.1)
    rw [Hbo.out] at CD
    have CD := Lib.hid CD
    clear hm7 hS7 hbw7 hb8 CT Hta7 x0 x1 x2 x3 x4 x5 x6
    have x0 : W8.cell? ⟨w.heap.size, 0, none⟩ = _ := hS8.cell (i := 0) rfl
    have x1 : W8.cell? ⟨w.heap.size, 1, none⟩ = _ := hS8.cell (i := 1) rfl
    have x2 : W8.cell? ⟨w.heap.size, 2, none⟩ = _ := hS8.cell (i := 2) rfl
    have x3 : W8.cell? ⟨w.heap.size, 3, none⟩ = _ := hS8.cell (i := 3) rfl
    have x4 : W8.cell? ⟨w.heap.size, 4, none⟩ = _ := hS8.cell (i := 4) rfl
    have x5 : W8.cell? ⟨w.heap.size, 5, none⟩ = _ := hS8.cell (i := 5) rfl
    have x6 : W8.cell? ⟨w.heap.size, 6, none⟩ = _ := hS8.cell (i := 6) rfl
    go_wp2_with fail
    refine CD.out.mono ?_; rintro e W9 ⟨rfl, hb9⟩
    clear x0 x1 x2 x3 x4 x5 x6
    go_wp2_with fail
    refine (wakes_any _).mono ?_; rintro e wz ⟨rfl, hbz⟩
    go_wp2
    go_ret
    exact ⟨rfl, ext_trans (ext_trans hbw8 hb9) hbz⟩
end Go.Proofs.Ytcnidhcdkbfpcaa

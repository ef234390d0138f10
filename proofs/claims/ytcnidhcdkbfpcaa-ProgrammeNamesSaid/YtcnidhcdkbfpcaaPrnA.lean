/- The law ProgrammeNames: its walk. -/
import Derived.Test.YtcnidhcdkbfpcaaAbsC
import Derived.Test.YtcnidhcdkbfpcaaPrlU
import Derived.Test.YtcnidhcdkbfpcaaPrlQ
namespace Go.Proofs.Ytcnidhcdkbfpcaa
open Go.RowKit Go.Bs Go.Pg Go.Pl Go.Sort
def evL : Sh := ⟨[⟨10, 40, 1, [1], false⟩, ⟨8, 60, 2, [10], false⟩, ⟨12, 50, 1, [9], true⟩], [1, 0, 0, 0], [3, 5], [2, 4], 9, 1, []⟩
theorem ev_less : evS.lessW 2 = evL := by kernel_rfl
theorem ev_ex2 : evS.excep 2 = none := by decide +kernel
theorem ev_ex1 : evS.excep 1 = some 1 := by decide +kernel
theorem ev_kept : evS.keptTo 2 evS.acts.length = [0, 1, 2] := by decide +kernel
theorem ev_wut2 {bs : Nat} {e : Ending} {W : World} (h : WutR bs evS 2 e W) : ∃ q vk, e = .returned (.tuple #[shV evL q, vk, .int .i64 0, .int .i64 0]) ∧ ShM W evL q ∧ OwnL W bs 3 1 encI vk [0, 1, 2] := by
  have e2 : (2 : Int).toNat = 2 := rfl
  unfold WutR at h
  rw [e2] at h
  rcases h with ⟨h1, -⟩ | ⟨-, h1, -⟩ | ⟨-, -, ⟨i, h1, -⟩ | ⟨-, h1, -⟩ | ⟨-, -, q, vk, h1, h2, h3⟩⟩
  · rw [ev_ok] at h1; cases h1
  · exact absurd h1 (by decide)
  · rw [ev_ex2] at h1; cases h1
  · rw [ev_kept] at h1; cases h1
  · rw [ev_kept] at h3
    rw [ev_less] at h1 h2
    exact ⟨q, vk, h1, h2.m, h3⟩
theorem ev_wut1 {bs : Nat} {e : Ending} {W : World} (h : WutR bs evS 1 e W) : e = .returned (.tuple #[.agg #[.slice none 0 0, .slice none 0 0, .slice none 0 0, .slice none 0 0, .int .i64 0, .int .i64 0, .slice none 0 0], .slice none 0 0, .int .i64 1, .int .i64 9]) := by
  have e2 : (1 : Int).toNat = 1 := rfl
  unfold WutR at h
  rw [e2] at h
  rcases h with ⟨h1, -⟩ | ⟨-, h1, -⟩ | ⟨-, -, ⟨i, h1, h2⟩ | ⟨h1, -⟩ | ⟨h1, -⟩⟩
  · rw [ev_ok] at h1; cases h1
  · exact absurd h1 (by decide)
  · rw [ev_ex1] at h1
    cases h1
    exact h2
  · rw [ev_ex1] at h1; cases h1
  · rw [ev_ex1] at h1; cases h1
theorem ev_mis0 : evS.misE 0 = 0 ∧ evS.misD 0 = false ∧ evS.misL 0 = [] := by decide +kernel
theorem ev_mis1 : evS.misE 1 = 1 ∧ evS.misD 1 = false ∧ evS.misL 1 = [] := by decide +kernel
theorem ev_mis2 : evS.misE 2 = -1 ∧ evS.misD 2 = false ∧ evS.misL 2 = [0, 1, 2] := by decide +kernel
theorem ev_mis3 : evS.misE 3 = -1 ∧ evS.misD 3 = false ∧ evS.misL 3 = [0, 1] := by decide +kernel
theorem ev_best2 {w W : World} {v : Value} (h : BestR w evS v W) : ∃ sl tv hi, v = .tuple #[sl, .int .i64 24, tv, .int .i64 0] ∧ OwnL W w.heap.size 3 1 encI sl [0, 1, 2] ∧ TabM W w.heap.size hi tv evS.tabV ∧ Below w.heap.size w W := by
  obtain ⟨hb, ⟨h1, -⟩ | ⟨-, h1, -⟩ | ⟨-, l, sl, tv, hi, h1, h2, h3, h4⟩⟩ := h
  · rw [ev_ok] at h1; cases h1
  · rw [ev_solve] at h1; cases h1
  · rw [ev_solve] at h1
    cases h1
    rw [ev_least] at h4
    exact ⟨sl, tv, hi, h4, h2, h3, hb⟩
theorem ev_tabl : evS.tabV.length ≤ 100 ∧ ∀ r ∈ evS.tabV, r.length ≤ 100 := by decide +kernel
theorem ev_prv : provB evS [0, 1, 2] 24 evS.tabV = true := by
  have := prov_own (Sh.ok_of ev_ok) ev_solve
  rw [ev_least] at this
  exact this
theorem ev_prv2 {l : List Int} {c : Int} (hc : c ≠ 24) : provB evS l c evS.tabV = false := by
  cases h : provB evS l c evS.tabV
  · rfl
  · have := prov_least h ev_solve
    rw [ev_least] at this
    exact absurd this hc
def evC : Sh := ⟨[⟨10, 40, 1, [1], false⟩, ⟨8, 60, 2, [6, 10], false⟩, ⟨12, 50, 1, [9], true⟩], [1, 0, 0, 0], [3, 5], [2, 4], 6, 1, []⟩
def evB : Sh := ⟨[⟨10, 40, 1, [1], false⟩, ⟨8, 60, 2, [6, 10], false⟩, ⟨12, 50, 1, [9], true⟩], [1, 0, 0, 0], [3, 5], [2, 4], 9, 1, [(1, 0)]⟩
theorem evC_m {W : World} {p : ShP} (h : ShM W evS p) : ShM W evC p := ⟨h.eq, h.acts, h.casts, h.rest, h.ins, h.outs, h.before, h.bits, h.small⟩
theorem evB_m {W : World} {p : ShP} {Z c : Nat} (h : ShM W evS p) (hZ : Blk W Z 84 [.int .i64 1, .int .i64 0]) : ShM W evB {p with B := some ⟨Z, 0, none⟩, cB := c} :=
  ⟨h.eq, h.acts, h.casts, h.rest, h.ins, h.outs, cells_of encP_len hZ rfl, h.bits, ⟨h.small.1, h.small.2.1, h.small.2.2.1, h.small.2.2.2.1, by decide⟩⟩
theorem flt_some {s : Sh} {l : List Int} {e : Ending} {a : Int} {b : Nat} (h : FltR s l e) (ha : askE s l = 0) (hf : s.fault (l.map Int.toNat) = (a, b)) (hb : b ≠ 0) : e = .returned (.tuple #[.int .i64 a, .int .u8 b, .int .i64 0]) := by
  obtain ⟨x, y, z, rfl, -, -, h3⟩ := h
  rw [hf] at h3
  obtain ⟨rfl, rfl, rfl⟩ := h3 ha hb
  rfl
theorem flt_none {s : Sh} {l : List Int} {e : Ending} {a : Int} (h : FltR s l e) (ha : askE s l = 0) (hf : s.fault (l.map Int.toNat) = (a, 0)) : e = .returned (.tuple #[.int .i64 0, .int .u8 (0 : Nat), .int .i64 7]) := by
  obtain ⟨x, y, z, rfl, -, h2, -⟩ := h
  rw [hf] at h2
  obtain ⟨rfl, rfl, rfl⟩ := h2 ha rfl
  rfl
theorem flt_bad {s : Sh} {l : List Int} {e : Ending} {c : Int} (h : FltR s l e) (ha : askE s l = c) (hc : c ≠ 0) : e = .returned (.tuple #[.int .i64 0, .int .u8 (0 : Nat), .int .i64 c]) := by
  obtain ⟨x, y, z, rfl, h1, -, -⟩ := h
  rw [ha] at h1
  obtain ⟨rfl, rfl, rfl⟩ := h1 hc
  rfl
theorem cst_bad {s : Sh} {l : List Int} {e : Ending} {c : Int} (h : CstR s l e) (ha : rightE s l = c) (hc : c ≠ 0) : e = .returned (.tuple #[.int .i64 0, .int .i64 c]) := by
  obtain ⟨x, z, rfl, h1, h2, -⟩ := h
  rw [ha] at h1
  subst h1
  rw [h2 hc]
theorem chg_bad {s : Sh} {a b : Int} {e : Ending} {c : Int} (h : ChgR s a b e) (ha : chgE s a b = c) (hc : c ≠ 0) : e = .returned (.tuple #[.int .i64 0, .int .i64 0, .int .i64 c]) := by
  obtain ⟨x, y, z, rfl, h1, h2, -⟩ := h
  rw [ha] at h1
  subst h1
  obtain ⟨rfl, rfl⟩ := h2 hc
  rfl
theorem evC_ok : evC.okB = true := by decide +kernel
theorem evC_solve : evC.solve = none := by decide +kernel
theorem evC_ask : askE evC [0, 1, 2] = 0 := by decide +kernel
theorem evC_flt : evC.fault ([0, 1, 2].map Int.toNat) = (1, 1) := by decide +kernel
theorem evB_ask : askE evB [0, 1, 2] = 0 := by decide +kernel
theorem evB_flt : evB.fault ([0, 1, 2].map Int.toNat) = (0, 3) := by decide +kernel
theorem evS_r : rightE evS [0, 2, 1] = 9 := by decide +kernel
theorem evS_a : askE evS [0, 1, 1] = 2 := by decide +kernel
theorem evS_c : chgE evS 1 1 = 2 := by decide +kernel
theorem evS_a2 : askE evS [2, 1, 0] = 0 := by decide +kernel
theorem evS_f2 : evS.fault ([2, 1, 0].map Int.toNat) = (0, 0) := by decide +kernel
theorem best_none {w W : World} {v : Value} (h : BestR w evC v W) : v = .tuple #[.slice none 0 0, .int .i64 0, .slice none 0 0, .int .i64 7] ∧ Below w.heap.size w W := by
  obtain ⟨hb, ⟨h1, -⟩ | ⟨-, -, h1⟩ | ⟨-, l, sl, tv, hi, h1, -⟩⟩ := h
  · rw [evC_ok] at h1; cases h1
  · exact ⟨h1, hb⟩
  · rw [evC_solve] at h1; cases h1
def evZ : Sh := ⟨[], [], [], [], 0, 0, []⟩
def evZP : ShP := ⟨[], none, none, none, none, none, 0, 0, 0, 0, 0⟩
theorem evZ_m (W : World) : ShM W evZ evZP :=
  ⟨rfl, Cells.nil, by simp [evZP], Cells.nil, Cells.nil, Cells.nil, Cells.nil, by simp [evZ], by simp [evZ]⟩
theorem evZ_ok : evZ.okB = false := by decide +kernel
theorem four_of {α : Type} {L : List α} (h : L.length = 4) : ∃ a b c d, L = [a, b, c, d] := by
  match L, h with
  | [a, b, c, d], _ => exact ⟨a, b, c, d, rfl⟩
theorem ev_abs {bs : Nat} {e : Ending} {W : World} (h : AbsR bs evS e W) : ∃ (v : Value) (A0 A1 A2 A3 : Option Addr) (c0 c1 c2 c3 : Nat), e = .returned (.tuple #[v, .int .i64 0]) ∧ AbsM bs W v [⟨[], 0, false, A0, c0⟩, ⟨[], 1, false, A1, c1⟩, ⟨[0, 1, 2], -1, false, A2, c2⟩, ⟨[0, 1], -1, false, A3, c3⟩] := by
  unfold AbsR at h
  rcases h with ⟨h1, -⟩ | ⟨-, v, L, h1, h2, h3⟩
  · rw [ev_ok] at h1; cases h1
  · obtain ⟨a, b, c, d, rfl⟩ := four_of h3.1
    have g0 := h3.2 0 a rfl
    have g1 := h3.2 1 b rfl
    have g2 := h3.2 2 c rfl
    have g3 := h3.2 3 d rfl
    have q0 := ev_mis0
    have q1 := ev_mis1
    have q2 := ev_mis2
    have q3 := ev_mis3
    unfold AbG at g0 g1 g2 g3
    rw [q0.1, q0.2.1, q0.2.2] at g0
    rw [q1.1, q1.2.1, q1.2.2] at g1
    rw [q2.1, q2.2.1, q2.2.2] at g2
    rw [q3.1, q3.2.1, q3.2.2] at g3
    obtain ⟨la, ea, da, Aa, ca⟩ := a
    obtain ⟨lb, eb, db, Ab, cb⟩ := b
    obtain ⟨lc, ec, dc, Ac, cc⟩ := c
    obtain ⟨ld, ed, dd, Ad, cd⟩ := d
    obtain ⟨rfl, rfl, rfl⟩ := g0
    obtain ⟨rfl, rfl, rfl⟩ := g1
    obtain ⟨rfl, rfl, rfl⟩ := g2
    obtain ⟨rfl, rfl, rfl⟩ := g3
    exact ⟨v, Aa, Ab, Ac, Ad, ca, cb, cc, cd, h1, h2⟩
set_option maxRecDepth 100000 in
set_option maxHeartbeats 10000000 in
theorem names_law (w : World) : Calls Try.prog 13 #[] w fun e w' => e = .returned (.bool true) ∧ Below w.heap.size w w' := by
  go_enter Try.func13, Try.ntmps13
  go_wp2_with fail
  refine (evening_any w).mono ?_; rintro e W1 ⟨⟨p1, rfl, hp1⟩, hb1⟩
  go_wp2_with fail
  refine (Without_any evS p1 2 W1 hp1).mono ?_; rintro e W2 ⟨hR, hb2⟩
  obtain ⟨q1, vk1, rfl, hq1, hk1⟩ := ev_wut2 hR
  obtain ⟨A1, c1, rfl, -, -, hkc⟩ := hk1.cells encI_len
  have hw2 := ext_trans hb1 hb2
  clear hR hp1 hb1 hb2 hk1
  unfold shV
  go_upto_region 2 with fail
  have hX1 : Blk (W2.alloc (.cells #[.slice q1.A evL.acts.length q1.cA, .slice q1.R evL.rest.length q1.cR, .slice q1.I evL.ins.length q1.cI, .slice q1.O evL.outs.length q1.cO, .int .i64 evL.cover, .int .i64 evL.dull, .slice q1.B evL.before.length q1.cB] 35)) W2.heap.size 35 (shC evL q1) := Blk.new W2 35 (shC evL q1)
  have hal := ext_alloc W2 (.cells #[.slice q1.A evL.acts.length q1.cA, .slice q1.R evL.rest.length q1.cR, .slice q1.I evL.ins.length q1.cI, .slice q1.O evL.outs.length q1.cO, .int .i64 evL.cover, .int .i64 evL.dull, .slice q1.B evL.before.length q1.cB] 35)
  have hq3 := hq1.ext hal
  have hk3 := hkc.ext hal
  have hw3 := ext_trans hw2 hal
  clear hq1 hkc hw2 hal
  generalize W2.heap.size = X1 at *
  generalize W2.alloc (.cells #[.slice q1.A evL.acts.length q1.cA, .slice q1.R evL.rest.length q1.cR, .slice q1.I evL.ins.length q1.cI, .slice q1.O evL.outs.length q1.cO, .int .i64 evL.cover, .int .i64 evL.dull, .slice q1.B evL.before.length q1.cB] 35) = W3 at *
  have HA := Lib.hid (fun W (hW : Below W3.heap.size W3 W) => And.intro (hq3.ext hW) (And.intro (hX1.ext hW) (And.intro (hk3.ext hW) (ext_trans hw3 hW))))
  clear hq3 hX1 hk3 hw3
  go_wp2_with fail
  refine (evening_any W3).mono ?_; rintro e W4 ⟨⟨p2, rfl, hp2⟩, hb4⟩
  go_wp2_with fail
  refine (Without_any evS p2 1 W4 hp2).mono ?_; rintro e W5 ⟨hR, hb5⟩
  obtain rfl := ev_wut1 hR
  have hb35 := ext_trans hb4 hb5
  clear hR hp2 hb4 hb5
  go_upto_region 3 with fail
  have hb36 := ext_trans hb35 (ext_alloc W5 (.cells #[.slice none 0 0, .slice none 0 0, .slice none 0 0, .slice none 0 0, .int .i64 0, .int .i64 0, .slice none 0 0] 35))
  clear hb35
  generalize W5.alloc (.cells #[.slice none 0 0, .slice none 0 0, .slice none 0 0, .slice none 0 0, .int .i64 0, .int .i64 0, .slice none 0 0] 35) = W6 at *
  go_wp2_with fail
  refine (evening_any W6).mono ?_; rintro e W7 ⟨⟨p3, rfl, hp3⟩, hb7⟩
  go_wp2_with fail
  refine (Absences_any evS p3 W7 hp3).mono ?_; rintro e W8 ⟨hR, hb8⟩
  obtain ⟨v3, B0, B1, B2, B3, d0, d1, d2, d3, rfl, hM⟩ := ev_abs hR
  obtain ⟨A3, c3, rfl, -, -, -⟩ := hM.own.cells abv_len
  have hb38 := ext_trans hb36 (ext_trans hb7 hb8)
  have HB := Lib.hid (fun W (hW : Below W8.heap.size W8 W) => And.intro (hM.ext hW) (HA.out W (ext_trans hb38 hW)))
  clear hR hp3 hb7 hb8 hM hb38 HA hb36
  obtain ⟨hM8, hq8, hX8, hk8, hw8⟩ := HB.out W8 (Below.refl _ _)
  have hac : evL.acts.length = 3 := rfl
  have x0 : W8.cell? ⟨X1, 0, none⟩ = some (.slice q1.A 3 q1.cA) := hX8.cell (i := 0) rfl
  obtain ⟨bA, oA, Ci, ci, hA, -, -, -, -, g3, -, hcc⟩ := hq8.at (i := 1) (by decide)
  rw [hA] at x0
  obtain ⟨bC, oC, rfl, -, g4⟩ := hcc.at1 (k := 0) (by decide) rfl
  have g3 : W8.cell? ⟨bA, oA + 1 * 5 + 3, none⟩ = some (.slice (some ⟨bC, oC, none⟩) 1 ci) := g3
  have g4 : W8.cell? ⟨bC, oC + 0, none⟩ = some (.int .u16 10) := g4
  simp only [Nat.one_mul, Nat.add_zero, Nat.add_assoc, Nat.reduceAdd] at g3 g4
  clear hA hcc hX8 hq8 hM8
  go_wp2_with fail
  have hn9 := Blk.new W8 3 [.int .i64 0, .int .i64 1, .int .i64 2]
  have hx9 := ext_alloc W8 (.cells #[.int .i64 0, .int .i64 1, .int .i64 2] 3)
  have hk9 := hk8.ext hx9
  clear hk8 hw8 x0 g3 g4
  change Blk (W8.alloc (.cells #[.int .i64 0, .int .i64 1, .int .i64 2] 3)) _ _ _ at hn9
  generalize W8.alloc (.cells #[.int .i64 0, .int .i64 1, .int .i64 2] 3) = W9 at *
  refine (ints_any A1 _ 3 3 c1 3 [0, 1, 2] [0, 1, 2] W9 rfl rfl (by omega) (by omega) hk9 (cells_of encI_len hn9 rfl)).mono ?_; rintro e W10 ⟨rfl, hb10⟩
  have hbx := ext_trans hx9 hb10
  clear hk9 hn9 hx9 hb10
  obtain ⟨ba, oa, rfl, -⟩ := abv_at ((HB.out W10 hbx).1.own.cl abv_len) (q := 0) (by simp)

  have hcl := (HB.out W10 hbx).1.own.cl abv_len
  obtain ⟨b0, o0, h0, ea, eb, ec⟩ := abv_at hcl (q := 0) (by simp)
  cases h0
  have e00 : W10.cell? ⟨ba, oa, none⟩ = some (.slice B0 0 d0) := by simpa using ea
  have e01 : W10.cell? ⟨ba, oa + 1, none⟩ = some (.int .i64 0) := by simpa [Nat.add_assoc] using eb
  have e02 : W10.cell? ⟨ba, oa + 2, none⟩ = some (.bool false) := by simpa [Nat.add_assoc] using ec
  clear ea eb ec
  obtain ⟨b1, o1, h1, ea, eb, ec⟩ := abv_at hcl (q := 1) (by simp)
  cases h1
  have e10 : W10.cell? ⟨ba, oa + 3, none⟩ = some (.slice B1 0 d1) := by simpa using ea
  have e11 : W10.cell? ⟨ba, oa + 4, none⟩ = some (.int .i64 1) := by simpa [Nat.add_assoc] using eb
  have e12 : W10.cell? ⟨ba, oa + 5, none⟩ = some (.bool false) := by simpa [Nat.add_assoc] using ec
  clear ea eb ec
  obtain ⟨b2, o2, h2, ea, eb, ec⟩ := abv_at hcl (q := 2) (by simp)
  cases h2
  have e20 : W10.cell? ⟨ba, oa + 6, none⟩ = some (.slice B2 3 d2) := by simpa using ea
  have e21 : W10.cell? ⟨ba, oa + 7, none⟩ = some (.int .i64 (-1)) := by simpa [Nat.add_assoc] using eb
  have e22 : W10.cell? ⟨ba, oa + 8, none⟩ = some (.bool false) := by simpa [Nat.add_assoc] using ec
  clear ea eb ec
  obtain ⟨b3, o3, h3, ea, eb, ec⟩ := abv_at hcl (q := 3) (by simp)
  cases h3
  have e30 : W10.cell? ⟨ba, oa + 9, none⟩ = some (.slice B3 2 d3) := by simpa using ea
  have e31 : W10.cell? ⟨ba, oa + 10, none⟩ = some (.int .i64 (-1)) := by simpa [Nat.add_assoc] using eb
  have e32 : W10.cell? ⟨ba, oa + 11, none⟩ = some (.bool false) := by simpa [Nat.add_assoc] using ec
  clear ea eb ec
  clear hcl
  go_wp2_with fail
  clear e00 e01 e02 e10 e11 e12 e20 e21 e22 e30 e31 e32
  have hr2 : Cells W10 B2 1 encI [0, 1, 2] := ((HB.out W10 hbx).1.rows ⟨[0, 1, 2], -1, false, B2, d2⟩ (by simp)).cl encI_len
  have hn11 := Blk.new W10 3 [.int .i64 0, .int .i64 1, .int .i64 2]
  have hx11 := ext_alloc W10 (.cells #[.int .i64 0, .int .i64 1, .int .i64 2] 3)
  have hr11 := hr2.ext hx11
  have hbx11 := ext_trans hbx hx11
  clear hr2 hbx hx11
  change Blk (W10.alloc (.cells #[.int .i64 0, .int .i64 1, .int .i64 2] 3)) _ _ _ at hn11
  generalize W10.alloc (.cells #[.int .i64 0, .int .i64 1, .int .i64 2] 3) = W11 at *
  refine (ints_any B2 _ 3 3 d2 3 [0, 1, 2] [0, 1, 2] W11 rfl rfl (by omega) (by omega) hr11 (cells_of encI_len hn11 rfl)).mono ?_; rintro e W12 ⟨rfl, hb12⟩
  have hbx12 := ext_trans hbx11 hb12
  clear hr11 hn11 hbx11 hb12
  have hcl := (HB.out W12 hbx12).1.own.cl abv_len
  obtain ⟨b0, o0, h0, ea, eb, ec⟩ := abv_at hcl (q := 0) (by simp)
  cases h0
  have e00 : W12.cell? ⟨ba, oa, none⟩ = some (.slice B0 0 d0) := by simpa using ea
  have e01 : W12.cell? ⟨ba, oa + 1, none⟩ = some (.int .i64 0) := by simpa [Nat.add_assoc] using eb
  have e02 : W12.cell? ⟨ba, oa + 2, none⟩ = some (.bool false) := by simpa [Nat.add_assoc] using ec
  clear ea eb ec
  obtain ⟨b1, o1, h1, ea, eb, ec⟩ := abv_at hcl (q := 1) (by simp)
  cases h1
  have e10 : W12.cell? ⟨ba, oa + 3, none⟩ = some (.slice B1 0 d1) := by simpa using ea
  have e11 : W12.cell? ⟨ba, oa + 4, none⟩ = some (.int .i64 1) := by simpa [Nat.add_assoc] using eb
  have e12 : W12.cell? ⟨ba, oa + 5, none⟩ = some (.bool false) := by simpa [Nat.add_assoc] using ec
  clear ea eb ec
  obtain ⟨b2, o2, h2, ea, eb, ec⟩ := abv_at hcl (q := 2) (by simp)
  cases h2
  have e20 : W12.cell? ⟨ba, oa + 6, none⟩ = some (.slice B2 3 d2) := by simpa using ea
  have e21 : W12.cell? ⟨ba, oa + 7, none⟩ = some (.int .i64 (-1)) := by simpa [Nat.add_assoc] using eb
  have e22 : W12.cell? ⟨ba, oa + 8, none⟩ = some (.bool false) := by simpa [Nat.add_assoc] using ec
  clear ea eb ec
  obtain ⟨b3, o3, h3, ea, eb, ec⟩ := abv_at hcl (q := 3) (by simp)
  cases h3
  have e30 : W12.cell? ⟨ba, oa + 9, none⟩ = some (.slice B3 2 d3) := by simpa using ea
  have e31 : W12.cell? ⟨ba, oa + 10, none⟩ = some (.int .i64 (-1)) := by simpa [Nat.add_assoc] using eb
  have e32 : W12.cell? ⟨ba, oa + 11, none⟩ = some (.bool false) := by simpa [Nat.add_assoc] using ec
  clear ea eb ec
  clear hcl
  go_wp2_with fail
  clear e00 e01 e02 e10 e11 e12 e20 e21 e22 e30 e31 e32
  have hr3 : Cells W12 B3 1 encI [0, 1] := ((HB.out W12 hbx12).1.rows ⟨[0, 1], -1, false, B3, d3⟩ (by simp)).cl encI_len
  have hn13 := Blk.new W12 3 [.int .i64 0, .int .i64 1]
  have hx13 := ext_alloc W12 (.cells #[.int .i64 0, .int .i64 1] 3)
  have hr13 := hr3.ext hx13
  have hbx13 := ext_trans hbx12 hx13
  clear hr3 hbx12 hx13
  change Blk (W12.alloc (.cells #[.int .i64 0, .int .i64 1] 3)) _ _ _ at hn13
  generalize W12.alloc (.cells #[.int .i64 0, .int .i64 1] 3) = W13 at *
  refine (ints_any B3 _ 2 2 d3 2 [0, 1] [0, 1] W13 rfl rfl (by omega) (by omega) hr13 (cells_of encI_len hn13 rfl)).mono ?_; rintro e W14 ⟨rfl, hb14⟩
  have hbx14 := ext_trans hbx13 hb14
  clear hr13 hn13 hbx13 hb14
  have hcl := (HB.out W14 hbx14).1.own.cl abv_len
  obtain ⟨b0, o0, h0, ea, eb, ec⟩ := abv_at hcl (q := 0) (by simp)
  cases h0
  have e00 : W14.cell? ⟨ba, oa, none⟩ = some (.slice B0 0 d0) := by simpa using ea
  have e01 : W14.cell? ⟨ba, oa + 1, none⟩ = some (.int .i64 0) := by simpa [Nat.add_assoc] using eb
  have e02 : W14.cell? ⟨ba, oa + 2, none⟩ = some (.bool false) := by simpa [Nat.add_assoc] using ec
  clear ea eb ec
  obtain ⟨b1, o1, h1, ea, eb, ec⟩ := abv_at hcl (q := 1) (by simp)
  cases h1
  have e10 : W14.cell? ⟨ba, oa + 3, none⟩ = some (.slice B1 0 d1) := by simpa using ea
  have e11 : W14.cell? ⟨ba, oa + 4, none⟩ = some (.int .i64 1) := by simpa [Nat.add_assoc] using eb
  have e12 : W14.cell? ⟨ba, oa + 5, none⟩ = some (.bool false) := by simpa [Nat.add_assoc] using ec
  clear ea eb ec
  obtain ⟨b2, o2, h2, ea, eb, ec⟩ := abv_at hcl (q := 2) (by simp)
  cases h2
  have e20 : W14.cell? ⟨ba, oa + 6, none⟩ = some (.slice B2 3 d2) := by simpa using ea
  have e21 : W14.cell? ⟨ba, oa + 7, none⟩ = some (.int .i64 (-1)) := by simpa [Nat.add_assoc] using eb
  have e22 : W14.cell? ⟨ba, oa + 8, none⟩ = some (.bool false) := by simpa [Nat.add_assoc] using ec
  clear ea eb ec
  obtain ⟨b3, o3, h3, ea, eb, ec⟩ := abv_at hcl (q := 3) (by simp)
  cases h3
  have e30 : W14.cell? ⟨ba, oa + 9, none⟩ = some (.slice B3 2 d3) := by simpa using ea
  have e31 : W14.cell? ⟨ba, oa + 10, none⟩ = some (.int .i64 (-1)) := by simpa [Nat.add_assoc] using eb
  have e32 : W14.cell? ⟨ba, oa + 11, none⟩ = some (.bool false) := by simpa [Nat.add_assoc] using ec
  clear ea eb ec
  clear hcl
  go_upto_region 8 with fail
  clear e00 e01 e02 e10 e11 e12 e20 e21 e22 e30 e31 e32
  have hw14 := (HB.out W14 hbx14).2.2.2.2
  clear HB hbx14
  go_wp2_with fail
  refine (evening_any W14).mono ?_; rintro e W15 ⟨⟨p15, rfl, hp15⟩, hb15⟩
  go_wp2_with fail
  refine (Best_any evS p15 W15 hp15).mono ?_; rintro e W16 ⟨v16, rfl, h16⟩
  obtain ⟨sl, tv, hi, rfl, hsl, htv, hb16⟩ := ev_best2 h16
  obtain ⟨A7, c7, rfl, -, -, hcl⟩ := hsl.cells encI_len
  obtain ⟨A8, c8, rfl, hta⟩ := htv.toA
  have hw16 := ext_trans hw14 (ext_trans hb15 hb16)
  have HC := Lib.hid (fun W (hW : Below W16.heap.size W16 W) => And.intro (hcl.ext hW) (And.intro (hta.ext hW) (ext_trans hw16 hW)))
  clear h16 hsl htv hb15 hb16 hp15 hw14 hcl hta hw16
  have Htl := Lib.hid ev_tabl
  generalize hT : evS.tabV = T at *
  go_wp2_with fail
  refine (evening_any W16).mono ?_; rintro e W17 ⟨⟨p17, rfl, hp17⟩, hb17⟩
  have ht1 : T.length ≤ 9223372036854775807 := by have := Htl.out.1; omega
  have Ht2 := Lib.hid (show ∀ r ∈ T, r.length ≤ 9223372036854775807 from fun r hr => Nat.le_trans (Htl.out.2 r hr) (by decide))
  have Hp1 := Lib.hid (show provB evS [0, 1, 2] 24 T = true from hT ▸ ev_prv)
  have Hp2 := Lib.hid (show provB evS [2, 1, 0] 34 T = false from hT ▸ ev_prv2 (by decide))
  have Hp3 := Lib.hid (show provB evS [0, 1, 2] 23 T = false from hT ▸ ev_prv2 (by decide))
  clear hT
  have C1 := Lib.hid (Prove_any evS p17 A7 3 c7 [0, 1, 2] 24 A8 T.length c8 T W17 hp17 rfl (by omega) (HC.out W17 hb17).1 rfl ht1 Ht2.out (HC.out W17 hb17).2.1)
  rw [Hp1.out] at C1
  go_wp2_with fail
  refine C1.out.mono ?_; rintro e W18 ⟨rfl, hb18⟩
  have hbx18 := ext_trans hb17 hb18
  clear C1 hp17 hb17 hb18 Hp1
  go_wp2_with fail
  refine (evening_any W18).mono ?_; rintro e W19 ⟨⟨p19, rfl, hp19⟩, hb19⟩
  have hn20 := Blk.new W19 3 [.int .i64 2, .int .i64 1, .int .i64 0]
  have hx20 := ext_alloc W19 (.cells #[.int .i64 2, .int .i64 1, .int .i64 0] 3)
  have hp20 := hp19.ext hx20
  have hbx20 := ext_trans hbx18 (ext_trans hb19 hx20)
  clear hp19 hb19 hx20 hbx18
  go_wp2_with fail
  change Blk (W19.alloc (.cells #[.int .i64 2, .int .i64 1, .int .i64 0] 3)) _ _ _ at hn20
  generalize W19.alloc (.cells #[.int .i64 2, .int .i64 1, .int .i64 0] 3) = W20 at *
  have C2 := Lib.hid (Prove_any evS p19 (some ⟨W19.heap.size, 0, none⟩) 3 3 [2, 1, 0] 34 A8 T.length c8 T W20 hp20 rfl (by omega) (cells_of encI_len hn20 rfl) rfl ht1 Ht2.out (HC.out W20 hbx20).2.1)
  rw [Hp2.out] at C2
  refine C2.out.mono ?_; rintro e W21 ⟨rfl, hb21⟩
  have hbx21 := ext_trans hbx20 hb21
  clear C2 hp20 hn20 hbx20 hb21 Hp2
  go_wp2_with fail
  refine (evening_any W21).mono ?_; rintro e W22 ⟨⟨p22, rfl, hp22⟩, hb22⟩
  have hbx22 := ext_trans hbx21 hb22
  have C3 := Lib.hid (Prove_any evS p22 A7 3 c7 [0, 1, 2] 23 A8 T.length c8 T W22 hp22 rfl (by omega) (HC.out W22 hbx22).1 rfl ht1 Ht2.out (HC.out W22 hbx22).2.1)
  rw [Hp3.out] at C3
  clear hbx21 hb22
  go_wp2_with fail
  refine C3.out.mono ?_; rintro e W23 ⟨rfl, hb23⟩
  have hw23 := (HC.out W23 (ext_trans hbx22 hb23)).2.2
  clear C3 hp22 hbx22 hb23 Hp3 HC ht1 Ht2 Htl
  go_upto_region 11 with fail
  go_wp2_with fail
  refine (evening_any W23).mono ?_; rintro e W24 ⟨⟨p24, rfl, hp24⟩, hb24⟩
  go_wp2_with fail
  refine (evening_any W24).mono ?_; rintro e W25 ⟨⟨p25, rfl, hp25⟩, hb25⟩
  have hm24 := hp24.ext hb25
  have hw25 := ext_trans hw23 (ext_trans hb24 hb25)
  clear hp24 hb24 hb25 hw23
  unfold shV
  go_upto_region 12 with fail
  have hX : Blk ((W25.alloc (.cells #[.slice p24.A evS.acts.length p24.cA, .slice p24.R evS.rest.length p24.cR, .slice p24.I evS.ins.length p24.cI, .slice p24.O evS.outs.length p24.cO, .int .i64 evS.cover, .int .i64 evS.dull, .slice p24.B evS.before.length p24.cB] 35)).alloc (.cells #[.slice p25.A evS.acts.length p25.cA, .slice p25.R evS.rest.length p25.cR, .slice p25.I evS.ins.length p25.cI, .slice p25.O evS.outs.length p25.cO, .int .i64 evS.cover, .int .i64 evS.dull, .slice p25.B evS.before.length p25.cB] 35)) W25.heap.size 35 (shC evS p24) := (Blk.new W25 35 (shC evS p24)).alloc _
  have hY : Blk ((W25.alloc (.cells #[.slice p24.A evS.acts.length p24.cA, .slice p24.R evS.rest.length p24.cR, .slice p24.I evS.ins.length p24.cI, .slice p24.O evS.outs.length p24.cO, .int .i64 evS.cover, .int .i64 evS.dull, .slice p24.B evS.before.length p24.cB] 35)).alloc (.cells #[.slice p25.A evS.acts.length p25.cA, .slice p25.R evS.rest.length p25.cR, .slice p25.I evS.ins.length p25.cI, .slice p25.O evS.outs.length p25.cO, .int .i64 evS.cover, .int .i64 evS.dull, .slice p25.B evS.before.length p25.cB] 35)) (W25.heap.size + 1) 35 (shC evS p25) := by
    have := Blk.new (W25.alloc (.cells #[.slice p24.A evS.acts.length p24.cA, .slice p24.R evS.rest.length p24.cR, .slice p24.I evS.ins.length p24.cI, .slice p24.O evS.outs.length p24.cO, .int .i64 evS.cover, .int .i64 evS.dull, .slice p24.B evS.before.length p24.cB] 35)) 35 (shC evS p25)
    have e1 : (W25.alloc (.cells #[.slice p24.A evS.acts.length p24.cA, .slice p24.R evS.rest.length p24.cR, .slice p24.I evS.ins.length p24.cI, .slice p24.O evS.outs.length p24.cO, .int .i64 evS.cover, .int .i64 evS.dull, .slice p24.B evS.before.length p24.cB] 35)).heap.size = W25.heap.size + 1 := by simp
    rw [e1] at this
    exact this
  have hb27 : Below W25.heap.size W25 ((W25.alloc (.cells #[.slice p24.A evS.acts.length p24.cA, .slice p24.R evS.rest.length p24.cR, .slice p24.I evS.ins.length p24.cI, .slice p24.O evS.outs.length p24.cO, .int .i64 evS.cover, .int .i64 evS.dull, .slice p24.B evS.before.length p24.cB] 35)).alloc (.cells #[.slice p25.A evS.acts.length p25.cA, .slice p25.R evS.rest.length p25.cR, .slice p25.I evS.ins.length p25.cI, .slice p25.O evS.outs.length p25.cO, .int .i64 evS.cover, .int .i64 evS.dull, .slice p25.B evS.before.length p25.cB] 35)) := ((Below.refl _ _).alloc (Nat.le_refl _) _).alloc (by simp) _
  have hz27 : ((W25.alloc (.cells #[.slice p24.A evS.acts.length p24.cA, .slice p24.R evS.rest.length p24.cR, .slice p24.I evS.ins.length p24.cI, .slice p24.O evS.outs.length p24.cO, .int .i64 evS.cover, .int .i64 evS.dull, .slice p24.B evS.before.length p24.cB] 35)).alloc (.cells #[.slice p25.A evS.acts.length p25.cA, .slice p25.R evS.rest.length p25.cR, .slice p25.I evS.ins.length p25.cI, .slice p25.O evS.outs.length p25.cO, .int .i64 evS.cover, .int .i64 evS.dull, .slice p25.B evS.before.length p25.cB] 35)).heap.size = W25.heap.size + 2 := by simp
  have Hz27 := Lib.hid hz27
  clear hz27
  unfold shC at hX hY
  generalize ((W25.alloc (.cells #[.slice p24.A evS.acts.length p24.cA, .slice p24.R evS.rest.length p24.cR, .slice p24.I evS.ins.length p24.cI, .slice p24.O evS.outs.length p24.cO, .int .i64 evS.cover, .int .i64 evS.dull, .slice p24.B evS.before.length p24.cB] 35)).alloc (.cells #[.slice p25.A evS.acts.length p25.cA, .slice p25.R evS.rest.length p25.cR, .slice p25.I evS.ins.length p25.cI, .slice p25.O evS.outs.length p25.cO, .int .i64 evS.cover, .int .i64 evS.dull, .slice p25.B evS.before.length p25.cB] 35)) = W27 at *
  have y4 : W27.cell? ⟨W25.heap.size, 4, none⟩ = some _ := hX.cell (i := 4) rfl
  have f4 := hX.free 4
  go_upto_region 13 with fail
  have hX2 := hX.set 4 (.int .i64 6)
  have hY2 := hY.other (p := ⟨W25.heap.size, 4, none⟩) (by simp) (.int .i64 6)
  have hb28 := hb27.setCell (p := ⟨W25.heap.size, 4, none⟩) (Nat.le_refl _) (.int .i64 6)
  have Hz28 : Hid ((W27.setCell ⟨W25.heap.size, 4, none⟩ (.int .i64 6)).heap.size = W25.heap.size + 2) := Lib.hid (by rw [← Hz27.out]; simp)
  clear y4 f4 hX hY hb27 Hz27
  generalize W27.setCell ⟨W25.heap.size, 4, none⟩ (.int .i64 6) = W28 at *
  have hZ : Blk (W28.alloc (.cells #[.int .i64 1, .int .i64 0] 84)) W28.heap.size 84 [.int .i64 1, .int .i64 0] := Blk.new W28 84 _
  have hY3 := hY2.alloc (.cells #[.int .i64 1, .int .i64 0] 84)
  have hX3 := hX2.alloc (.cells #[.int .i64 1, .int .i64 0] 84)
  have hb29 := hb28.alloc hb28.size (.cells #[.int .i64 1, .int .i64 0] 84)
  have hZY : W25.heap.size + 1 ≠ W28.heap.size := by have := Hz28.out; omega
  clear hX2 hY2 hb28 Hz28
  have y6 : (W28.alloc (.cells #[.int .i64 1, .int .i64 0] 84)).cell? ⟨W25.heap.size + 1, 6, none⟩ = some _ := hY3.cell (i := 6) rfl
  have f6 := hY3.free 6
  go_upto_region 14 with fail
  generalize W28.heap.size = Z at *
  have hY4 := hY3.set 6 (.slice (some ⟨Z, 0, none⟩) 1 1)
  have hX4 := hX3.other (p := ⟨W25.heap.size + 1, 6, none⟩) (by simp) (.slice (some ⟨Z, 0, none⟩) 1 1)
  have hZ4 := hZ.other (p := ⟨W25.heap.size + 1, 6, none⟩) (by simp; omega) (.slice (some ⟨Z, 0, none⟩) 1 1)
  have hb4 := hb29.setCell (p := ⟨W25.heap.size + 1, 6, none⟩) (by simp) (.slice (some ⟨Z, 0, none⟩) 1 1)
  change Blk _ _ 35 [_, _, _, _, _, _, _] at hY4
  change Blk _ _ 35 [_, _, _, _, _, _, _] at hX4
  clear y6 f6 hY3 hX3 hZ hb29 hZY
  generalize (W28.alloc (.cells #[.int .i64 1, .int .i64 0] 84)).setCell ⟨W25.heap.size + 1, 6, none⟩ (.slice (some ⟨Z, 0, none⟩) 1 1) = W29 at *
  have hmC := evC_m (hm24.ext hb4)
  have hmB : ShM W29 evB ⟨p25.av, p25.A, p25.R, p25.I, p25.O, some ⟨Z, 0, none⟩, p25.cA, p25.cR, p25.cI, p25.cO, 1⟩ := evB_m (hp25.ext hb4) hZ4
  have HS := Lib.hid (fun W (hW : Below W29.heap.size W29 W) => And.intro (hmC.ext hW) (And.intro (hmB.ext hW) (And.intro (hX4.ext hW) (And.intro (hY4.ext hW) (ext_trans (ext_trans hw25 hb4) hW)))))
  have x0 : W29.cell? ⟨W25.heap.size, 0, none⟩ = some _ := hX4.cell (i := 0) rfl
  have x1 : W29.cell? ⟨W25.heap.size, 1, none⟩ = some _ := hX4.cell (i := 1) rfl
  have x2 : W29.cell? ⟨W25.heap.size, 2, none⟩ = some _ := hX4.cell (i := 2) rfl
  have x3 : W29.cell? ⟨W25.heap.size, 3, none⟩ = some _ := hX4.cell (i := 3) rfl
  have x4 : W29.cell? ⟨W25.heap.size, 4, none⟩ = some _ := hX4.cell (i := 4) rfl
  have x5 : W29.cell? ⟨W25.heap.size, 5, none⟩ = some _ := hX4.cell (i := 5) rfl
  have x6 : W29.cell? ⟨W25.heap.size, 6, none⟩ = some _ := hX4.cell (i := 6) rfl
  clear hmC hmB hX4 hY4 hZ4 hm24 hp25 hw25 hb4
  go_wp2_with fail
  clear x0 x1 x2 x3 x4 x5 x6
  have hn := Blk.new W29 3 [.int .i64 0, .int .i64 1, .int .i64 2]
  have hx := ext_alloc W29 (.cells #[.int .i64 0, .int .i64 1, .int .i64 2] 3)
  change Blk (W29.alloc (.cells #[.int .i64 0, .int .i64 1, .int .i64 2] 3)) _ _ _ at hn
  generalize W29.alloc (.cells #[.int .i64 0, .int .i64 1, .int .i64 2] 3) = W30 at *
  refine (Fault_any evC p24 _ 3 3 [0, 1, 2] W30 (HS.out W30 hx).1 rfl (by omega) (cells_of encI_len hn rfl)).mono ?_; rintro e W31 ⟨h31, hb31⟩
  obtain rfl := flt_some h31 evC_ask evC_flt (by decide)
  have hb31w := ext_trans hx hb31
  clear h31 hb31 hn hx
  have hY31 := (HS.out W31 hb31w).2.2.2.1
  have x0 : W31.cell? ⟨W25.heap.size + 1, 0, none⟩ = some _ := hY31.cell (i := 0) rfl
  have x1 : W31.cell? ⟨W25.heap.size + 1, 1, none⟩ = some _ := hY31.cell (i := 1) rfl
  have x2 : W31.cell? ⟨W25.heap.size + 1, 2, none⟩ = some _ := hY31.cell (i := 2) rfl
  have x3 : W31.cell? ⟨W25.heap.size + 1, 3, none⟩ = some _ := hY31.cell (i := 3) rfl
  have x4 : W31.cell? ⟨W25.heap.size + 1, 4, none⟩ = some _ := hY31.cell (i := 4) rfl
  have x5 : W31.cell? ⟨W25.heap.size + 1, 5, none⟩ = some _ := hY31.cell (i := 5) rfl
  have x6 : W31.cell? ⟨W25.heap.size + 1, 6, none⟩ = some _ := hY31.cell (i := 6) rfl
  clear hY31
  go_wp2_with fail
  clear x0 x1 x2 x3 x4 x5 x6
  have hn := Blk.new W31 3 [.int .i64 0, .int .i64 1, .int .i64 2]
  have hx := ext_alloc W31 (.cells #[.int .i64 0, .int .i64 1, .int .i64 2] 3)
  change Blk (W31.alloc (.cells #[.int .i64 0, .int .i64 1, .int .i64 2] 3)) _ _ _ at hn
  generalize W31.alloc (.cells #[.int .i64 0, .int .i64 1, .int .i64 2] 3) = W32 at *
  refine (Fault_any evB ⟨p25.av, p25.A, p25.R, p25.I, p25.O, some ⟨Z, 0, none⟩, p25.cA, p25.cR, p25.cI, p25.cO, 1⟩ _ 3 3 [0, 1, 2] W32 (HS.out W32 (ext_trans hb31w hx)).2.1 rfl (by omega) (cells_of encI_len hn rfl)).mono ?_; rintro e W33 ⟨h33, hb33⟩
  obtain rfl := flt_some h33 evB_ask evB_flt (by decide)
  have hb33w := ext_trans (ext_trans hb31w hx) hb33
  clear h33 hb33 hn hx hb31w
  have hX33 := (HS.out W33 hb33w).2.2.1
  have x0 : W33.cell? ⟨W25.heap.size, 0, none⟩ = some _ := hX33.cell (i := 0) rfl
  have x1 : W33.cell? ⟨W25.heap.size, 1, none⟩ = some _ := hX33.cell (i := 1) rfl
  have x2 : W33.cell? ⟨W25.heap.size, 2, none⟩ = some _ := hX33.cell (i := 2) rfl
  have x3 : W33.cell? ⟨W25.heap.size, 3, none⟩ = some _ := hX33.cell (i := 3) rfl
  have x4 : W33.cell? ⟨W25.heap.size, 4, none⟩ = some _ := hX33.cell (i := 4) rfl
  have x5 : W33.cell? ⟨W25.heap.size, 5, none⟩ = some _ := hX33.cell (i := 5) rfl
  have x6 : W33.cell? ⟨W25.heap.size, 6, none⟩ = some _ := hX33.cell (i := 6) rfl
  clear hX33
  go_wp2_with fail
  refine (Best_any evC p24 W33 (HS.out W33 hb33w).1).mono ?_; rintro e W34 ⟨v34, rfl, h34⟩
  clear x0 x1 x2 x3 x4 x5 x6
  obtain ⟨rfl, hb34⟩ := best_none h34
  have hw34 := (HS.out W34 (ext_trans hb33w hb34)).2.2.2.2
  clear HS h34 hb34 hb33w
  go_wp2_with fail
  refine (evening_any W34).mono ?_; rintro e W35 ⟨⟨p35, rfl, hp35⟩, hb35⟩
  go_wp2_with fail
  have hn := Blk.new W35 3 [.int .i64 0, .int .i64 2, .int .i64 1]
  have hx := ext_alloc W35 (.cells #[.int .i64 0, .int .i64 2, .int .i64 1] 3)
  change Blk (W35.alloc (.cells #[.int .i64 0, .int .i64 2, .int .i64 1] 3)) _ _ _ at hn
  generalize W35.alloc (.cells #[.int .i64 0, .int .i64 2, .int .i64 1] 3) = W36 at *
  refine (Cost_any evS p35 _ 3 3 [0, 2, 1] W36 (hp35.ext hx) rfl (by omega) (cells_of encI_len hn rfl)).mono ?_; rintro e W37 ⟨h37, hb37⟩
  obtain rfl := cst_bad h37 evS_r (by decide)
  have hw37 := ext_trans hw34 (ext_trans hb35 (ext_trans hx hb37))
  clear h37 hb37 hn hx hp35 hb35 hw34
  go_wp2_with fail
  refine (evening_any W37).mono ?_; rintro e W38 ⟨⟨p38, rfl, hp38⟩, hb38⟩
  go_wp2_with fail
  have hn := Blk.new W38 3 [.int .i64 0, .int .i64 1, .int .i64 1]
  have hx := ext_alloc W38 (.cells #[.int .i64 0, .int .i64 1, .int .i64 1] 3)
  change Blk (W38.alloc (.cells #[.int .i64 0, .int .i64 1, .int .i64 1] 3)) _ _ _ at hn
  generalize W38.alloc (.cells #[.int .i64 0, .int .i64 1, .int .i64 1] 3) = W39 at *
  refine (Fault_any evS p38 _ 3 3 [0, 1, 1] W39 (hp38.ext hx) rfl (by omega) (cells_of encI_len hn rfl)).mono ?_; rintro e W40 ⟨h40, hb40⟩
  obtain rfl := flt_bad h40 evS_a (by decide)
  have hw40 := ext_trans hw37 (ext_trans hb38 (ext_trans hx hb40))
  clear h40 hb40 hn hx hp38 hb38 hw37
  go_wp2_with fail
  refine (evening_any W40).mono ?_; rintro e W41 ⟨⟨p41, rfl, hp41⟩, hb41⟩
  go_wp2_with fail
  refine (Change_any evS p41 1 1 W41 hp41).mono ?_; rintro e W42 ⟨h42, hb42⟩
  obtain rfl := chg_bad h42 evS_c (by decide)
  have hw42 := ext_trans hw40 (ext_trans hb41 hb42)
  clear h42 hb42 hp41 hb41 hw40
  go_wp2_with fail
  refine (evening_any W42).mono ?_; rintro e W43 ⟨⟨p43, rfl, hp43⟩, hb43⟩
  go_wp2_with fail
  have hn := Blk.new W43 3 [.int .i64 2, .int .i64 1, .int .i64 0]
  have hx := ext_alloc W43 (.cells #[.int .i64 2, .int .i64 1, .int .i64 0] 3)
  change Blk (W43.alloc (.cells #[.int .i64 2, .int .i64 1, .int .i64 0] 3)) _ _ _ at hn
  generalize W43.alloc (.cells #[.int .i64 2, .int .i64 1, .int .i64 0] 3) = W44 at *
  refine (Fault_any evS p43 _ 3 3 [2, 1, 0] W44 (hp43.ext hx) rfl (by omega) (cells_of encI_len hn rfl)).mono ?_; rintro e W45 ⟨h45, hb45⟩
  obtain rfl := flt_none h45 evS_a2 evS_f2
  have hw45 := ext_trans hw42 (ext_trans hb43 (ext_trans hx hb45))
  clear h45 hb45 hn hx hp43 hb43 hw42
  have CK := Lib.hid (check_any evZ evZP W45 (evZ_m W45))
  rw [evZ_ok] at CK
  go_wp2_with fail
  refine CK.out.mono ?_; rintro e W46 ⟨rfl, hb46⟩
  have hw46 := ext_trans hw45 hb46
  clear CK hb46 hw45
  go_wp2_with fail
  refine (wakes_any W46).mono ?_; rintro e W47 ⟨rfl, hb47⟩
  go_wp2
  go_ret
  exact ⟨rfl, ext_trans hw46 hb47⟩
end Go.Proofs.Ytcnidhcdkbfpcaa

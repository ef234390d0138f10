/- The law ProgrammeMissing: its walk. -/
import Derived.Test.YtcnidhcdkbfpcaaAbsC
import Derived.Test.YtcnidhcdkbfpcaaPrlU
import Derived.Test.YtcnidhcdkbfpcaaPrlQ
namespace Go.Proofs.Ytcnidhcdkbfpcaa
open Go.RowKit Go.Bs Go.Pg Go.Pl Go.Sort
theorem excep_facts {s : Sh} {p i : Nat} (h : s.excep p = some i) : i < s.acts.length ∧ (s.act i).spare = false ∧ ∀ c ∈ (s.act i).casts, c.testBit p = true := by
  unfold Sh.excep at h
  have h1 := List.mem_of_find?_eq_some h
  have h2 := List.find?_some h
  unfold Sh.excB Sh.kepB at h2
  simp only [Bool.and_eq_true, Bool.not_eq_true', decide_eq_false_iff_not, Nat.not_lt, Nat.le_zero, List.length_eq_zero_iff] at h2
  refine ⟨by simpa using h1, h2.2, fun c hc => ?_⟩
  have h3 := h2.1
  unfold Sh.castsW at h3
  rw [List.filter_eq_nil_iff] at h3
  simpa using h3 c hc
theorem mis_ex {s : Sh} {p i : Nat} (h : s.excep p = some i) : s.misE p = i ∧ s.misD p = false ∧ s.misL p = [] := by
  unfold Sh.misE Sh.misD Sh.misL; rw [h]; exact ⟨rfl, rfl, rfl⟩
theorem mis_no {s : Sh} {p : Nat} (h : s.excep p = none) : s.misE p = -1 ∧ s.misD p = (s.misQ p).isNone ∧ s.misL p = s.old p ((s.misQ p).getD []) := by
  unfold Sh.misE Sh.misD Sh.misL; rw [h]; exact ⟨rfl, rfl, rfl⟩
theorem mis_nil {s : Sh} {p : Nat} (h : s.excep p = none) (hk : s.keptTo p s.acts.length = []) : s.misE p = -1 ∧ s.misD p = true ∧ s.misL p = [] := by
  have hq : s.misQ p = none := by unfold Sh.misQ; rw [if_pos hk]
  obtain ⟨h1, h2, h3⟩ := mis_no h
  rw [hq] at h2 h3
  exact ⟨h1, h2, h3⟩
theorem less_facts {s : Sh} {p : Nat} : ∀ a ∈ (s.lessW p).acts, 0 < a.casts.length ∧ ∀ c ∈ a.casts, c.testBit p = false := by
  intro a ha
  obtain ⟨i, hi, rfl⟩ := List.mem_map.1 ha
  obtain ⟨-, hik⟩ := Sh.keptTo_mem.1 hi
  refine ⟨by unfold Sh.kepB at hik; exact of_decide_eq_true hik, fun c hc => ?_⟩
  have := (List.mem_filter.1 hc).2
  simpa using this
theorem kept_nodup {s : Sh} {p n : Nat} : (s.keptTo p n).Nodup := List.Pairwise.filter (s.kepB p) List.nodup_range
theorem toI_getD {l : List Nat} {i : Nat} (h2 : i < (toI l).length) : (toI l)[i] = ((l.getD i 0 : Nat) : Int) := by
  have h : i < l.length := by rwa [toI_len] at h2
  have e : (toI l)[i]? = some ((l.getD i 0 : Nat) : Int) := by
    unfold toI
    rw [List.getElem?_map, List.getElem?_eq_getElem h]
    simp [h]
  rw [List.getElem?_eq_getElem h2] at e
  exact Option.some.inj e
theorem nodup_at {l : List Nat} (h : l.Nodup) {i j : Nat} (hi : i < l.length) (hj : j < l.length) (he : l.getD i 0 = l.getD j 0) : i = j := by
  have : l[i] = l[j] := by simpa [hi, hj] using he
  exact (List.getElem_inj h).1 this
def ifl (q j : Nat) : List Nat := if q < j then [q] else []
theorem ifl_zero {q : Nat} : ifl q 0 = [] := by unfold ifl; simp
theorem ifl_hit {q : Nat} : ifl q q = [] ∧ ifl q (q + 1) = [q] := by unfold ifl; simp
theorem ifl_miss {q j : Nat} (h : j ≠ q) : ifl q (j + 1) = ifl q j := by
  unfold ifl
  by_cases h1 : q < j
  · rw [if_pos h1, if_pos (by omega)]
  · rw [if_neg h1, if_neg (by omega)]
theorem ifl_end {q j : Nat} (h : q < j) : ifl q j = [q] := by unfold ifl; rw [if_pos h]
set_option maxRecDepth 100000 in
set_option maxHeartbeats 10000000 in
theorem missing_law (s : Sh) (p : ShP) (w : World) (h : ShW w s p) :
    Calls Try.prog 12 #[shV s p] w fun e w' => e = .returned (.bool true) ∧ Below w.heap.size w w' := by
  have hb0 := ext_alloc w (.cells (shC s p).toArray 26)
  have hS := Blk.new w 26 (shC s p)
  have h0 := h.ext hb0
  clear h
  unfold shV at *
  unfold shC at *
  go_enter Try.func12, Try.ntmps12
  go_upto_region 1 with fail
  change Blk (w.alloc (.cells #[.slice p.A s.acts.length p.cA, .slice p.R s.rest.length p.cR, .slice p.I s.ins.length p.cI, .slice p.O s.outs.length p.cO, .int .i64 s.cover, .int .i64 s.dull, .slice p.B s.before.length p.cB] 26)) _ _ _ at hS
  generalize w.alloc (.cells #[.slice p.A s.acts.length p.cA, .slice p.R s.rest.length p.cR, .slice p.I s.ins.length p.cI, .slice p.O s.outs.length p.cO, .int .i64 s.cover, .int .i64 s.dull, .slice p.B s.before.length p.cB] 26) = W0 at *
  have x0 : W0.cell? ⟨w.heap.size, 0, none⟩ = _ := hS.cell (i := 0) rfl
  have x1 : W0.cell? ⟨w.heap.size, 1, none⟩ = _ := hS.cell (i := 1) rfl
  have x2 : W0.cell? ⟨w.heap.size, 2, none⟩ = _ := hS.cell (i := 2) rfl
  have x3 : W0.cell? ⟨w.heap.size, 3, none⟩ = _ := hS.cell (i := 3) rfl
  have x4 : W0.cell? ⟨w.heap.size, 4, none⟩ = _ := hS.cell (i := 4) rfl
  have x5 : W0.cell? ⟨w.heap.size, 5, none⟩ = _ := hS.cell (i := 5) rfl
  have x6 : W0.cell? ⟨w.heap.size, 6, none⟩ = _ := hS.cell (i := 6) rfl
  go_wp2_with fail
  refine (Few_any s p W0 h0).mono ?_; rintro e W1 ⟨rfl, hb1⟩
  cases hf : s.fewB
  · clear x0 x1 x2 x3 x4 x5 x6
    go_wp2_with fail
    refine (wakes_any _).mono ?_; rintro e wz ⟨rfl, hbz⟩
    go_wp2
    go_ret
    exact ⟨rfl, ext_trans (ext_trans hb0 hb1) hbz⟩
  have hm1 := (h0.few hf).ext hb1
  have hS1 := hS.ext hb1
  have hbw := ext_trans hb0 hb1
  clear hb0 hb1 h0 hS hf x0 x1 x2 x3 x4 x5 x6
  have x0 : W1.cell? ⟨w.heap.size, 0, none⟩ = _ := hS1.cell (i := 0) rfl
  have x1 : W1.cell? ⟨w.heap.size, 1, none⟩ = _ := hS1.cell (i := 1) rfl
  have x2 : W1.cell? ⟨w.heap.size, 2, none⟩ = _ := hS1.cell (i := 2) rfl
  have x3 : W1.cell? ⟨w.heap.size, 3, none⟩ = _ := hS1.cell (i := 3) rfl
  have x4 : W1.cell? ⟨w.heap.size, 4, none⟩ = _ := hS1.cell (i := 4) rfl
  have x5 : W1.cell? ⟨w.heap.size, 5, none⟩ = _ := hS1.cell (i := 5) rfl
  have x6 : W1.cell? ⟨w.heap.size, 6, none⟩ = _ := hS1.cell (i := 6) rfl
  go_wp2_with fail
  refine (Right_any s p W1 hm1).mono ?_; rintro e W2 ⟨rfl, hb2⟩
  have hm2 := hm1.ext hb2
  have hS2 := hS1.ext hb2
  have hbw2 := ext_trans hbw hb2
  clear hm1 hS1 hbw hb2 x0 x1 x2 x3 x4 x5 x6
  cases hok : s.okB
  · clear hok
    go_wp2_with fail
    refine (wakes_any _).mono ?_; rintro e wz ⟨rfl, hbz⟩
    go_wp2
    go_ret
    exact ⟨rfl, ext_trans hbw2 hbz⟩
  have Hokb := Lib.hid hok
  have Hok := Lib.hid (Sh.ok_of hok)
  clear hok
  have x0 : W2.cell? ⟨w.heap.size, 0, none⟩ = _ := hS2.cell (i := 0) rfl
  have x1 : W2.cell? ⟨w.heap.size, 1, none⟩ = _ := hS2.cell (i := 1) rfl
  have x2 : W2.cell? ⟨w.heap.size, 2, none⟩ = _ := hS2.cell (i := 2) rfl
  have x3 : W2.cell? ⟨w.heap.size, 3, none⟩ = _ := hS2.cell (i := 3) rfl
  have x4 : W2.cell? ⟨w.heap.size, 4, none⟩ = _ := hS2.cell (i := 4) rfl
  have x5 : W2.cell? ⟨w.heap.size, 5, none⟩ = _ := hS2.cell (i := 5) rfl
  have x6 : W2.cell? ⟨w.heap.size, 6, none⟩ = _ := hS2.cell (i := 6) rfl
  go_wp2_with fail
  refine (Show_any s p W2 hm2).mono ?_; rintro e W3 ⟨⟨p1, rfl, hm3⟩, hb3⟩
  go_wp2_with fail
  refine (Absences_any s p1 W3 hm3).mono ?_; rintro e W4 ⟨hR, hb4⟩
  clear x0 x1 x2 x3 x4 x5 x6
  have hb34 := ext_trans hb3 hb4
  have hm4 := hm2.ext hb34
  have hS4 := hS2.ext hb34
  have hbw4 := ext_trans hbw2 hb34
  have m2 := hm2.small.2.1
  clear hm2 hS2 hbw2 hb3 hb4 hb34 hm3
  unfold AbsR at hR
  rcases hR with ⟨hok, -⟩ | ⟨-, v, L, rfl, hA4, hL⟩
  · rw [Hokb.out] at hok; cases hok
  obtain ⟨A, c, rfl, -, -, -⟩ := hA4.own.cells abv_len
  have HLg := Lib.hid hL.2
  rw [hL.1]
  have Hll := Lib.hid hL.1
  clear hL
  have HE := Lib.hid (fun W (hW : Below W4.heap.size W4 W) => And.intro (hm4.ext hW) (And.intro (hS4.ext hW) (And.intro (ext_trans hbw4 hW) (hA4.ext hW))))
  have x1 : W4.cell? ⟨w.heap.size, 1, none⟩ = _ := hS4.cell (i := 1) rfl
  clear hm4 hS4 hbw4 hA4
  unfold shV
  go_upto_block 0 with fail
  clear x1
  go_wp2
  go_loopw [5] (fun t wr => ∃ (k : Nat), t = .int .i64 k ∧ k ≤ s.rest.length ∧ Below W4.heap.size W4 wr) (fun t _ => s.rest.length - (intOf t).toNat)
  case atStart => exact ⟨0, rfl, by omega, Below.refl _ _⟩
  case round =>
    obtain ⟨k, rfl, hk, hb⟩ := hrel
    obtain ⟨hm, hSw, hbw, hAw⟩ := HE.out wr hb
    by_cases hlt : k < s.rest.length
    rotate_left
    · obtain rfl : k = s.rest.length := by omega
      clear hm hSw hAw
      go_wp2_with fail
      refine (wakes_any _).mono ?_; rintro e wz ⟨rfl, hbz⟩
      go_wp2
      go_ret
      exact ⟨rfl, ext_trans hbw hbz⟩
    have hlt' : (k : Int) < (s.rest.length : Int) := by omega
    have hk0 : (0 : Int) ≤ (k : Int) := by omega
    have hk16 : k < 16 := by have := Hok.out.r16; omega
    have hlk : k < L.length := by rw [Hll.out]; exact hlt
    have Hlg := Lib.hid (HLg.out k L[k] (List.getElem?_eq_getElem hlk))
    clear HLg
    have x0 : wr.cell? ⟨w.heap.size, 0, none⟩ = _ := hSw.cell (i := 0) rfl
    have x1 : wr.cell? ⟨w.heap.size, 1, none⟩ = _ := hSw.cell (i := 1) rfl
    have x2 : wr.cell? ⟨w.heap.size, 2, none⟩ = _ := hSw.cell (i := 2) rfl
    have x3 : wr.cell? ⟨w.heap.size, 3, none⟩ = _ := hSw.cell (i := 3) rfl
    have x4 : wr.cell? ⟨w.heap.size, 4, none⟩ = _ := hSw.cell (i := 4) rfl
    have x5 : wr.cell? ⟨w.heap.size, 5, none⟩ = _ := hSw.cell (i := 5) rfl
    have x6 : wr.cell? ⟨w.heap.size, 6, none⟩ = _ := hSw.cell (i := 6) rfl
    go_wp2_with fail
    refine (Show_any s p wr hm).mono ?_; rintro e V1 ⟨⟨p2, rfl, hm5⟩, hb5⟩
    clear x0 x1 x2 x3 x4 x5 x6
    go_wp2_with fail
    refine (Without_any s p2 k V1 hm5).mono ?_; rintro e V2 ⟨hR, hb6⟩
    have hb2w := ext_trans hb (ext_trans hb5 hb6)
    have hvs : V1.heap.size ≤ V2.heap.size := hb6.size
    clear hm hSw hbw hAw hb hb5 hb6 hm5
    unfold WutR at hR
    rw [Int.toNat_natCast] at hR
    rcases hR with ⟨hok, -⟩ | ⟨-, hn, -⟩ | ⟨-, -, hR⟩
    · rw [Hokb.out] at hok; cases hok
    · rw [btw_iff.2 ⟨hk0, by omega⟩] at hn; cases hn
    rcases hR with ⟨i, hex, rfl⟩ | ⟨hex, hkn, rfl⟩ | ⟨hex, hkn, q, vk, rfl, hq, hkk⟩
    · as_aux_lemma =>
        have Hex := Lib.hid (excep_facts hex)
        obtain ⟨e1, e2, e3⟩ := mis_ex hex
        go_upto_region 31 with fail
        have hAl := ext_alloc V2 (.cells #[.slice none 0 0, .slice none 0 0, .slice none 0 0, .slice none 0 0, .int .i64 0, .int .i64 0, .slice none 0 0] 35)
        have hb3w := ext_trans hb2w hAl
        clear hb2w hAl
        generalize V2.alloc (.cells #[.slice none 0 0, .slice none 0 0, .slice none 0 0, .slice none 0 0, .int .i64 0, .int .i64 0, .slice none 0 0] 35) = V3 at *
        obtain ⟨hm, hSw, -, hAw⟩ := HE.out V3 hb3w
        obtain ⟨ba, oa, rfl, d0, d1, d2⟩ := abv_at (hAw.own.cl abv_len) hlk
        obtain ⟨l1, l2, l3⟩ := Hlg.out
        rw [l1] at d0
        rw [l2] at d1
        rw [l3] at d2
        clear l1 l2 l3
        rw [e3] at d0
        rw [e1] at d1
        rw [e2] at d2
        have d0 : V3.cell? ⟨ba, oa + k * 3, none⟩ = some (.slice L[k].A 0 L[k].c) := d0
        obtain ⟨hil, hsp, hca⟩ := Hex.out
        obtain ⟨bA, oA, Ci, ci, hA, -, c0, c1, c2, c3, c4, hcc⟩ := hm.at hil
        have hbit := (hm.bit hil).2
        rw [hsp] at c4
        have x0 : V3.cell? ⟨w.heap.size, 0, none⟩ = some (.slice p.A s.acts.length p.cA) := hSw.cell (i := 0) rfl
        rw [hA] at x0
        have hi0 : (0 : Int) ≤ (i : Int) := by omega
        have hi1 : (i : Int) < (s.acts.length : Int) := by omega
        have Hca := Lib.hid hca
        have Hcc := Lib.hid hcc
        have Hbit := Lib.hid hbit
        have hcl : (s.act i).casts.length ≤ 1000 := hbit.1
        clear hex e1 e2 e3 Hex Hlg hm hSw hAw hA hsp hca hcc hbit c0 c1 c2 HE
        generalize L[k].A = Ax at *
        generalize L[k].c = cx at *
        go_upto_block 9 with fail
        clear d0 d1 d2 c4
        go_wp2
        go_loopw [10] (fun t wq => ∃ (j : Nat), t = .int .i64 j ∧ j ≤ (s.act i).casts.length ∧ wq = V3) (fun t _ => (s.act i).casts.length - (intOf t).toNat)
        case atStart => exact ⟨0, rfl, by omega, rfl⟩
        case round =>
          obtain ⟨j, rfl, hj, rfl⟩ := hrel
          by_cases hjl : j < (s.act i).casts.length
          · have hjl' : (j : Int) < ((s.act i).casts.length : Int) := by omega
            have hj0 : (0 : Int) ≤ (j : Int) := by omega
            obtain ⟨bC, oC, rfl, -, dj⟩ := Hcc.out.at1 hjl rfl
            have hcb := bit16 (s.act i).casts[j] k (Hbit.out.2 _ (List.getElem_mem hjl))
            rw [Hca.out _ (List.getElem_mem hjl)] at hcb
            simp only [if_true] at hcb
            generalize (s.act i).casts[j] = cj at *
            clear Hcc Hca Hbit
            go_wp2
            go_roundw
            case rel => exact ⟨j + 1, by go_num, by omega, by first | rfl | trivial⟩
            case measure => simp [intOf] <;> omega
          · obtain rfl : j = (s.act i).casts.length := by omega
            clear Hcc Hca Hbit
            go_wp2
            go_roundw
            case rel => exact ⟨k + 1, by go_num, by omega, hb3w⟩
            case measure => simp [intOf] <;> omega
    · as_aux_lemma =>
        obtain ⟨e1, e2, e3⟩ := mis_nil hex hkn
        go_upto_region 31 with fail
        have hAl := ext_alloc V2 (.cells #[.slice none 0 0, .slice none 0 0, .slice none 0 0, .slice none 0 0, .int .i64 0, .int .i64 0, .slice none 0 0] 35)
        have hb3w := ext_trans hb2w hAl
        clear hb2w hAl
        generalize V2.alloc (.cells #[.slice none 0 0, .slice none 0 0, .slice none 0 0, .slice none 0 0, .int .i64 0, .int .i64 0, .slice none 0 0] 35) = V3 at *
        obtain ⟨hm, hSw, -, hAw⟩ := HE.out V3 hb3w
        obtain ⟨ba, oa, rfl, d0, d1, d2⟩ := abv_at (hAw.own.cl abv_len) hlk
        obtain ⟨l1, l2, l3⟩ := Hlg.out
        rw [l1] at d0
        rw [l2] at d1
        rw [l3] at d2
        clear l1 l2 l3
        rw [e3] at d0
        rw [e1] at d1
        rw [e2] at d2
        have d0 : V3.cell? ⟨ba, oa + k * 3, none⟩ = some (.slice L[k].A 0 L[k].c) := d0
        clear hex e1 e2 e3 Hlg hm hSw hAw HE hkn
        generalize L[k].A = Ax at *
        generalize L[k].c = cx at *
        go_wp2
        go_roundw
        case rel => exact ⟨k + 1, by go_num, by omega, hb3w⟩
        case measure => simp [intOf] <;> omega
    · as_aux_lemma =>
        have hmq : s.misQ k = (s.lessW k).solve := by unfold Sh.misQ; rw [if_neg hkn]
        obtain ⟨e1, e2, e3⟩ := mis_no hex
        rw [hmq] at e2 e3
        have Hsok := Lib.hid (Sh.ok_lessW Hok.out hkn)
        have Hlf := Lib.hid (less_facts (s := s) (p := k))
        have Hqb := Lib.hid (fun qs h => Sh.misQ_bd (s := s) (p := k) Hok.out (q := qs) (hmq.trans h))
        have Hold := Lib.hid (show ∀ qs, s.old k qs = qs.map fun k1 => (s.keptTo k s.acts.length).getD k1 0 from fun _ => rfl)
        have Hnd := Lib.hid (kept_nodup (s := s) (p := k) (n := s.acts.length))
        have hkl := Sh.keptTo_le (s := s) (p := k) s.acts.length
        have hn8 := Hok.out.n8
        have hq0 := hq.m
        clear hex hmq hq
        generalize s.lessW k = sl at *
        generalize s.keptTo k s.acts.length = kt at *
        have hkp : 0 < kt.length := List.length_pos_iff.2 hkn
        have E1 := Lib.hid e1
        have E2 := Lib.hid e2
        have E3 := Lib.hid e3
        clear e1 e2 e3 hkn
        obtain ⟨gk, ck, rfl, -, -, -, -, hkc, -⟩ := hkk.blk encI_len (by rw [toI_len]; exact hkp)
        rw [toI_len]
        clear hkk
        unfold shV
        go_upto_region 31 with fail
        have hX : Blk (V2.alloc (.cells #[.slice q.A sl.acts.length q.cA, .slice q.R sl.rest.length q.cR, .slice q.I sl.ins.length q.cI, .slice q.O sl.outs.length q.cO, .int .i64 sl.cover, .int .i64 sl.dull, .slice q.B sl.before.length q.cB] 35)) V2.heap.size 35 (shC sl q) := Blk.new V2 35 (shC sl q)
        have hAl := ext_alloc V2 (.cells #[.slice q.A sl.acts.length q.cA, .slice q.R sl.rest.length q.cR, .slice q.I sl.ins.length q.cI, .slice q.O sl.outs.length q.cO, .int .i64 sl.cover, .int .i64 sl.dull, .slice q.B sl.before.length q.cB] 35)
        have hb3w := ext_trans hb2w hAl
        have hq3 := hq0.ext hAl
        have hk3 := hkc.ext hAl
        unfold shC at hX
        clear hb2w hAl hq0 hkc
        generalize V2.heap.size = X at *
        generalize V2.alloc (.cells #[.slice q.A sl.acts.length q.cA, .slice q.R sl.rest.length q.cR, .slice q.I sl.ins.length q.cI, .slice q.O sl.outs.length q.cO, .int .i64 sl.cover, .int .i64 sl.dull, .slice q.B sl.before.length q.cB] 35) = V3 at *
        obtain ⟨hm, hSw, -, hAw⟩ := HE.out V3 hb3w
        obtain ⟨ba, oa, rfl, d0, d1, d2⟩ := abv_at (hAw.own.cl abv_len) hlk
        obtain ⟨l1, l2, l3⟩ := Hlg.out
        rw [l1] at d0
        rw [l2] at d1
        rw [l3] at d2
        clear l1 l2 l3
        rw [E1.out] at d1
        clear d0 d2 hm hSw hAw
        go_upto_region 10 with fail
        clear d1
        have x0 : V3.cell? ⟨X, 0, none⟩ = _ := hX.cell (i := 0) rfl
        have x1 : V3.cell? ⟨X, 1, none⟩ = _ := hX.cell (i := 1) rfl
        have x2 : V3.cell? ⟨X, 2, none⟩ = _ := hX.cell (i := 2) rfl
        have x3 : V3.cell? ⟨X, 3, none⟩ = _ := hX.cell (i := 3) rfl
        have x4 : V3.cell? ⟨X, 4, none⟩ = _ := hX.cell (i := 4) rfl
        have x5 : V3.cell? ⟨X, 5, none⟩ = _ := hX.cell (i := 5) rfl
        have x6 : V3.cell? ⟨X, 6, none⟩ = _ := hX.cell (i := 6) rfl
        go_wp2_with fail
        refine (Best_any sl q V3 hq3).mono ?_; rintro e V4 ⟨v, rfl, hb7, hcase⟩
        clear x0 x1 x2 x3 x4 x5 x6
        obtain ⟨vs, le, vt, ee, rfl, hcs⟩ : ∃ vs le vt ee, v = .tuple #[vs, .int .i64 le, vt, .int .i64 ee] ∧ ((ee = 7 ∧ sl.solve = none) ∨ (ee = 0 ∧ ∃ qs, sl.solve = some qs)) := by
          rcases hcase with ⟨h1, -⟩ | ⟨-, hso, rfl⟩ | ⟨-, qs, so, tv, hi, hso, -, -, rfl⟩
          · rw [Sh.ok_iff.2 Hsok.out] at h1; cases h1
          · exact ⟨_, _, _, _, rfl, .inl ⟨rfl, hso⟩⟩
          · exact ⟨_, _, _, _, rfl, .inr ⟨rfl, qs, hso⟩⟩
        clear hcase
        have hb4w := ext_trans hb3w hb7
        have HX := Lib.hid (fun W (hW : Below V4.heap.size V4 W) => And.intro ((hq3.ext hb7).ext hW) (And.intro ((hX.ext hb7).ext hW) ((hk3.ext hb7).ext hW)))
        clear hX hq3 hk3 hb7 hb3w
        have Hcs := Lib.hid hcs
        clear hcs
        go_upto_region 11 with fail
        refine Dr.wp_region_plan 23 [] (.q [0, 1, 2, 3, 4, 5, 6, 7, 8, 9, 10, 11, 12, 13, 14, 15, 16, 17, 18, 19, 20, 21, 22] .done) (by kernel_rfl) (by kernel_rfl) ?_
        have hb5w := ext_trans hb4w (ext_drew V4)
        have HX := Lib.hid (fun W (hW : Below V4.drew.heap.size V4.drew W) => HX.out W ((ext_drew V4).trans hW))
        clear hb4w
        generalize World.drew _ = V5 at *
        obtain ⟨-, -, -, hAw⟩ := HE.out V5 hb5w
        obtain ⟨b9, o9, hb9, d0, -, d2⟩ := abv_at (hAw.own.cl abv_len) hlk
        cases hb9
        have hrow := (hAw.rows L[k] (List.getElem_mem hlk)).cl encI_len
        obtain ⟨l1, l2, l3⟩ := Hlg.out
        rw [l1, E3.out] at d0 hrow
        rw [l3, E2.out] at d2
        clear l1 l2 l3 hAw Hlg E1 E2 E3
        generalize L[k].A = Ax at *
        generalize L[k].c = cx at *
        rcases Hcs.out with ⟨rfl, hso⟩ | ⟨rfl, qs, hso⟩
        · as_aux_lemma =>
            rw [hso] at d0 d2
            have d0 : V5.cell? ⟨ba, oa + k * 3, none⟩ = some (.slice Ax 0 cx) := d0
            have d2 : V5.cell? ⟨ba, oa + k * 3 + 2, none⟩ = some (.bool true) := d2
            have q0 := Dr.cell0 d0
            have q1 := Dr.cell0 d2
            clear Hcs hso hrow HX HE Hsok Hlf Hqb Hold Hnd
            refine Dr.plan_q (l := [_, _, _, _, _, _, _, _, _, _, _, _, _, _, _, _, _, _, _, _, _, _, _]) rfl (fun K hK => ?_)
            iterate 23 (go_big_quiet_step (fail))
            refine wpQuiet_nil (hK _ ?_); clear hK K q0 q1
            refine Dr.plan_end rfl ?_
            clear d0
            go_wp2
            go_roundw
            case rel => exact ⟨k + 1, by go_num, by omega, hb5w⟩
            case measure => simp [intOf] <;> omega
        obtain ⟨hql, hqx⟩ := Hqb.out qs hso
        rw [hso] at d0 d2 hrow
        have d2 : V5.cell? ⟨ba, oa + k * 3 + 2, none⟩ = some (.bool false) := d2
        have d0 : V5.cell? ⟨ba, oa + k * 3, none⟩ = some (.slice Ax (toI (s.old k qs)).length cx) := d0
        have hrow : Cells V5 Ax 1 encI (toI (s.old k qs)) := hrow
        have hol : (toI (s.old k qs)).length = qs.length := by rw [toI_len, Hold.out, List.length_map]
        rw [hol] at d0
        have Hol := Lib.hid hol
        have Hpr := Lib.hid (prog_right Hsok.out (Sh.solve_some Hsok.out hso).1)
        have Hql := Lib.hid hql
        have hqp : 0 < qs.length := by omega
        have hqp' : ¬ ((qs.length : Nat) : Int) = 0 := by omega
        have hq00 : (((qs.length : Nat) : Int) == 0) = false := by rw [beq_eq_false_iff_ne]; exact hqp'
        have hq8 : qs.length ≤ 8 := by omega
        clear hql hol Hcs hso Hqb Hsok
        obtain ⟨bx, ox, rfl, -, -⟩ := hrow.at1 (k := 0) (by rw [Hol.out]; exact hqp) rfl
        have HY := Lib.hid (fun W (hW : Below V5.heap.size V5 W) => And.intro ((hW.cell (block_lt_of_cell d0)).trans d0) (And.intro (hrow.ext hW) (ext_trans hb5w hW)))
        clear hrow HE
        have q0 := Dr.cell0 d0
        have q1 := Dr.cell0 d2
        refine Dr.plan_q (l := [_, _, _, _, _, _, _, _, _, _, _, _, _, _, _, _, _, _, _, _, _, _, _]) rfl (fun K hK => ?_)
        iterate 23 (go_big_quiet_step (fail))
        refine wpQuiet_nil (hK _ ?_); clear hK K q0 q1
        refine Dr.plan_end rfl ?_
        clear d0
        go_upto_block 3 with fail
        clear d2 hqp' hqp hq00
        go_wp2
        go_loopw [15, 16] (fun v t wq => ∃ (i : Nat), t = .int .i64 i ∧ i ≤ qs.length ∧ Below V5.heap.size V5 wq ∧ OwnL wq V5.heap.size 3 1 encI v (toI (qs.take i))) (fun _ t _ => qs.length - (intOf t).toNat)
        case atStart => exact ⟨0, rfl, by omega, Below.refl _ _, OwnL.nil⟩
        case round =>
          obtain ⟨i, rfl, hi, hbi, hvi⟩ := hrel
          obtain ⟨d0, hrow, hbo⟩ := HY.out wr hbi
          by_cases hil : i < qs.length
          · as_aux_lemma =>
              have hil' : (i : Int) < (qs.length : Int) := by omega
              have hi0 : (0 : Int) ≤ (i : Int) := by omega
              obtain ⟨x, hx⟩ : ∃ x, qs[i] = x := ⟨_, rfl⟩
              have hxk : x < kt.length := hx ▸ hqx _ (List.getElem_mem hil)
              have htk : qs.take (i + 1) = qs.take i ++ [x] := by rw [List.take_succ_eq_append_getElem hil, hx]
              have hyx : (s.old k qs).getD i 0 = kt.getD x 0 := by
                rw [Hold.out]
                simp [hil, hx]
              have HYx := Lib.hid hyx
              have Htk := Lib.hid htk
              have Hv := Lib.hid hvi
              clear hx htk hyx hvi hrow hbo
              have hss := hbi.size
              generalize wr = w4 at *
              go_upto_block 5 with fail
              clear d0
              go_wp2
              go_loopw [15, 17] (fun v t wq => ∃ (j : Nat), t = .int .i64 j ∧ j ≤ kt.length ∧ Below V5.heap.size V5 wq ∧ OwnL wq V5.heap.size 3 1 encI v (toI (qs.take i ++ ifl x j))) (fun _ t _ => kt.length - (intOf t).toNat)
              case atStart => exact ⟨0, rfl, by omega, hbi, by rw [ifl_zero, List.append_nil]; exact Hv.out⟩
              case round =>
                clear Hv hbi hss
                obtain ⟨j, rfl, hj, hbj, hvj⟩ := hrel
                by_cases hjl : j < kt.length
                · have hjl' : (j : Int) < (kt.length : Int) := by omega
                  have hj0 : (0 : Int) ≤ (j : Int) := by omega
                  obtain ⟨d0, hrow, -⟩ := HY.out wr hbj
                  obtain ⟨-, -, hkc⟩ := HX.out wr hbj
                  obtain ⟨b1, o1, h1, -, c0⟩ := hkc.at1 (k := j) (by rw [toI_len]; exact hjl) rfl
                  cases h1
                  obtain ⟨b2, o2, h2, -, c1⟩ := hrow.at1 (k := i) (by rw [Hol.out]; exact hil) rfl
                  cases h2
                  rw [toI_getD, Nat.zero_add] at c0
                  rw [toI_getD, HYx.out] at c1
                  have Hinj := Lib.hid (show kt.getD j 0 = kt.getD x 0 → j = x from fun h => nodup_at Hnd.out hjl hxk h)
                  have Heq := Lib.hid (show j = x → kt.getD j 0 = kt.getD x 0 from fun h => by rw [h])
                  generalize kt.getD j 0 = yj at *
                  generalize kt.getD x 0 = yx at *
                  go_upto_region 21 with fail
                  refine Dr.wp_region_plan 13 [] (.q [0, 1, 2, 3, 4, 5, 6, 7, 8, 9, 10, 11, 12] .done) (by kernel_rfl) (by kernel_rfl) ?_
                  have hbd := ext_trans hbj (ext_drew wr)
                  have Hv := Lib.hid (hvj.ext (ext_drew wr))
                  have q0 := Dr.cell0 (w := wr.drew) (show wr.drew.cell? _ = _ from c0)
                  have q1 := Dr.cell0 (w := wr.drew) (show wr.drew.cell? _ = _ from c1)
                  have q2 := Dr.cell0 (w := wr.drew) (show wr.drew.cell? _ = _ from d0)
                  clear hbj hvj d0 hrow hkc c0 c1
                  generalize World.drew _ = V6 at *
                  refine Dr.plan_q (l := [_, _, _, _, _, _, _, _, _, _, _, _, _]) rfl (fun K hK => ?_)
                  iterate 13 (go_big_quiet_step (fail))
                  refine wpQuiet_nil (hK _ ?_); clear hK K q0 q1 q2
                  refine Dr.plan_end rfl ?_
                  by_cases hjx : j = x
                  · obtain rfl := Heq.out hjx
                    subst hjx
                    clear Hinj Heq
                    have hss := hbd.size
                    have E9 := Lib.hid (show toI (qs.take i ++ ifl j j) ++ [(j : Int)] = toI (qs.take i ++ ifl j (j + 1)) by rw [ifl_hit.1, ifl_hit.2, List.append_nil, toI_snoc])
                    have hll : (toI (qs.take i ++ ifl j j)).length ≤ 9 := by rw [toI_len, ifl_hit.1, List.append_nil, List.length_take]; omega
                    generalize toI (qs.take i ++ ifl j j) = l9 at *
                    go_wp2_with (at_builtin; refine app1 encI 23 3 1 8 et23 (by decide) (by decide) encI_len encI_one rfl _ _ rfl V5.heap.size _ l9 rfl (Hv.out.alloc _) V6.heap.size rfl (j : Int) (encI_cell ((Blk.new V6 3 [.int .i64 (j : Int)]).cell rfl)) (by omega) (by simp; omega) ?_; intro g2 cap2 U2 h2 hb2 hg2 hat2; have HF := Lib.hid (And.intro ((hbd.alloc hss _).trans hb2) h2); clear h2 hb2 hg2 hat2)
                    go_roundw
                    case rel => exact ⟨j + 1, by go_num, by omega, HF.out.1, by rw [← E9.out]; exact HF.out.2⟩
                    case measure => simp [intOf] <;> omega
                  · have hne : ¬ yj = yx := fun h => hjx (Hinj.out h)
                    have hne2 : ((yj : Int) == (yx : Int)) = false := by simp; omega
                    have Hmi := Lib.hid (ifl_miss hjx)
                    clear Hinj Heq
                    go_wp2
                    go_roundw
                    case rel => exact ⟨j + 1, by go_num, by omega, hbd, by rw [Hmi.out]; exact Hv.out⟩
                    case measure => simp [intOf] <;> omega
                · obtain rfl : j = kt.length := by omega
                  rw [ifl_end hxk, ← Htk.out] at hvj
                  have Hv := Lib.hid hvj
                  clear hvj
                  go_wp2
                  go_roundw
                  case rel => exact ⟨i + 1, by go_num, by omega, hbj, Hv.out⟩
                  case measure => simp [intOf] <;> omega
          · as_aux_lemma =>
              obtain rfl : i = qs.length := by omega
              rw [List.take_length] at hvi
              obtain ⟨Ao, co, rfl, -, -, hoc⟩ := hvi.cells encI_len
              rw [toI_len]
              obtain ⟨hqw, hXw, -⟩ := HX.out wr hbi
              have CC := Lib.hid (Cost_any sl q Ao qs.length co (toI qs) wr hqw (toI_len qs) (by omega) hoc)
              clear hvi hoc hrow
              have x0 : wr.cell? ⟨X, 0, none⟩ = _ := hXw.cell (i := 0) rfl
              have x1 : wr.cell? ⟨X, 1, none⟩ = _ := hXw.cell (i := 1) rfl
              have x2 : wr.cell? ⟨X, 2, none⟩ = _ := hXw.cell (i := 2) rfl
              have x3 : wr.cell? ⟨X, 3, none⟩ = _ := hXw.cell (i := 3) rfl
              have x4 : wr.cell? ⟨X, 4, none⟩ = _ := hXw.cell (i := 4) rfl
              have x5 : wr.cell? ⟨X, 5, none⟩ = _ := hXw.cell (i := 5) rfl
              have x6 : wr.cell? ⟨X, 6, none⟩ = _ := hXw.cell (i := 6) rfl
              go_upto_region 23 with fail
              clear d0
              go_wp2_with fail
              refine CC.out.mono ?_; rintro e V7 ⟨⟨xc, gz, rfl, hgz, -, -⟩, hb8⟩
              rw [Hpr.out] at hgz
              subst hgz
              clear x0 x1 x2 x3 x4 x5 x6 CC hqw hXw
              have hb8w := ext_trans hbi hb8
              obtain ⟨hqw, hXw, -⟩ := HX.out V7 hb8w
              have hbo := (HY.out V7 hb8w).2.2
              have hqk : ((qs.length : Nat) : Int) = (kt.length : Int) := by have := Hql.out; omega
              have x0 : V7.cell? ⟨X, 0, none⟩ = some (.slice q.A sl.acts.length q.cA) := hXw.cell (i := 0) rfl
              have Hqw := Lib.hid hqw
              have hal : sl.acts.length ≤ 1000 := hqw.small.1
              clear hb8 hb8w hbi hqw hXw HX HY
              go_upto_block 7 with fail
              clear hqk
              go_wp2
              go_loopw [20] (fun t wq => ∃ (j : Nat), t = .int .i64 j ∧ j ≤ sl.acts.length ∧ wq = V7) (fun t _ => sl.acts.length - (intOf t).toNat)
              case atStart => exact ⟨0, rfl, by omega, rfl⟩
              case round =>
                obtain ⟨j, rfl, hj, rfl⟩ := hrel
                by_cases hjl : j < sl.acts.length
                · have hjl' : (j : Int) < (sl.acts.length : Int) := by omega
                  have hj0 : (0 : Int) ≤ (j : Int) := by omega
                  obtain ⟨bA, oA, Ci, ci, hA, -, c0, c1, c2, c3, c4, hcc⟩ := Hqw.out.at hjl
                  rw [hA] at x0
                  have hfa := Hlf.out (sl.act j) (by rw [Sh.act_eq hjl]; exact List.getElem_mem hjl)
                  obtain ⟨bC, oC, rfl, -, dj⟩ := hcc.at1 (k := 0) hfa.1 rfl
                  rw [Nat.add_zero] at dj
                  have hcb := bit16 (sl.act j).casts[0] k ((Hqw.out.bit hjl).2.2 _ (List.getElem_mem hfa.1))
                  rw [hfa.2 _ (List.getElem_mem hfa.1)] at hcb
                  simp only [Bool.false_eq_true, if_false] at hcb
                  have hcl : (0 : Int) < ((sl.act j).casts.length : Int) := by have := hfa.1; omega
                  generalize (sl.act j).casts[0] = cj at *
                  clear hcc hfa hA c0 c1 c2 c4
                  go_wp2
                  go_roundw
                  case rel => exact ⟨j + 1, by go_num, by omega, by first | rfl | trivial⟩
                  case measure => simp [intOf] <;> omega
                · obtain rfl : j = sl.acts.length := by omega
                  clear Hqw
                  go_wp2
                  go_roundw
                  case rel => exact ⟨k + 1, by go_num, by omega, hbo⟩
                  case measure => simp [intOf] <;> omega
end Go.Proofs.Ytcnidhcdkbfpcaa

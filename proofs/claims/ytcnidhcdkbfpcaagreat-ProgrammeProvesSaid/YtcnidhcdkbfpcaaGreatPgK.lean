/- Walks: tired, Cost, Why, Fault of the reference. -/
import Derived.Test.YtcnidhcdkbfpcaaGreatPgJ
/- Walks: the reference's tired and Cost. -/
namespace Go.Pg
open Go.Pl
namespace Sh
theorem tired_iff {s : Sh} (hok : s.Ok) {a b : Nat} (ha : a < s.acts.length) {bt : Int} (_hbt : 0 ≤ bt) : s.tired a b bt = true ↔ ∃ q, q < s.rest.length ∧ ((s.cast a).testBit q && (s.cast b).testBit q && decide (bt < s.rest.getD q 0)) = true := by
  unfold Sh.tired
  rw [List.any_eq_true]
  constructor
  · rintro ⟨q, -, hq⟩
    refine ⟨q, ?_, hq⟩
    simp only [Bool.and_eq_true, decide_eq_true_eq] at hq
    have hc := hok.act ha
    have : s.cast a < 2 ^ s.rest.length := by
      unfold Sh.cast
      have := hc.c1
      rw [List.getD_eq_getElem?_getD, List.getElem?_eq_getElem (by omega : 0 < (s.act a).casts.length)]
      exact hc.casts _ (List.getElem_mem _)
    exact bit_lt this hq.1.1
  · rintro ⟨q, h1, h2⟩
    have := hok.r16
    exact ⟨q, by simp; omega, h2⟩
/-- the cost up to place i -/
def costTo (s : Sh) (k : List Nat) : Nat → Int
  | 0 => 0
  | i + 1 => costTo s k i + s.chC (k.getD i 0) (k.getD (i + 1) 0)
theorem pc_to {s : Sh} : ∀ (r : List Nat) (a : Nat), s.pc a r = s.costTo (a :: r) r.length
  | [], _ => rfl
  | b :: r, a => by
    have h : ∀ i, s.costTo (a :: b :: r) (i + 1) = s.chC a b + s.costTo (b :: r) i := by
      intro i
      induction i with
      | zero => show 0 + s.chC a b = s.chC a b + 0; omega
      | succ i ih =>
        show s.costTo (a :: b :: r) (i + 1) + s.chC ((b :: r).getD i 0) ((b :: r).getD (i + 1) 0) = s.chC a b + (s.costTo (b :: r) i + s.chC ((b :: r).getD i 0) ((b :: r).getD (i + 1) 0))
        omega
    show s.chC a b + s.pc b r = s.costTo (a :: b :: r) (r.length + 1)
    rw [h, pc_to r b]
theorem cost_to {s : Sh} (k : List Nat) : s.cost k = s.costTo k (k.length - 1) := by
  cases k with
  | nil => rfl
  | cons a r => exact pc_to r a
theorem costTo_bd {s : Sh} (hok : s.Ok) (k : List Nat) : ∀ i : Nat, 0 ≤ s.costTo k i ∧ s.costTo k i ≤ 1960 * i
  | 0 => by simp [costTo]
  | i + 1 => by
    have h1 := costTo_bd hok k i
    have h2 := hok.chC (k.getD i 0) (k.getD (i + 1) 0)
    simp only [costTo]
    omega
end Sh
end Go.Pg
namespace Go.Proofs.YtcnidhcdkbfpcaaGreat
open Go.RowKit Go.Bs Go.Pg Go.Pl Go.Sort
set_option maxRecDepth 100000 in
set_option maxHeartbeats 1000000 in
theorem RTired_any (s : Sh) (p : ShP) (a b : Nat) (bt : Int) (w : World) (h : ShM w s p) (hok : s.Ok) (ha : a < s.acts.length) (hb : b < s.acts.length) (hbt : 0 ≤ bt ∧ bt ≤ 1) :
    Calls Tryz.prog 53 #[shV s p, .int .i64 a, .int .i64 b, .int .i64 bt] w fun e w' => e = .returned (.bool (s.tired a b bt)) ∧ Below w.heap.size w w' := by
  have n8 := hok.n8
  have r16 := hok.r16
  have hb0 := ext_alloc w (.cells (shC s p).toArray 26)
  have hS := Blk.new w 26 (shC s p)
  have Hh := Lib.hid (h.ext hb0)
  obtain ⟨ba, oa, C1, k1, hA, -, -, -, -, a3, -, hC1⟩ := (h.ext hb0).at ha
  obtain ⟨ba', oa', C2, k2, hA', -, -, -, -, b3, -, hC2⟩ := (h.ext hb0).at hb
  rw [hA] at hA'
  obtain ⟨rfl, rfl⟩ : ba = ba' ∧ oa = oa' := by simpa using hA'
  clear hA'
  have l1 := (hok.act ha).c1
  have l2 := (hok.act hb).c1
  obtain ⟨g1, o1, rfl, hg1, d1⟩ := hC1.at1 (k := 0) (by omega) rfl
  obtain ⟨g2, o2, rfl, hg2, d2⟩ := hC2.at1 (k := 0) (by omega) rfl
  have e1 : (s.act a).casts[0] = s.cast a := by unfold Sh.cast; simp [show 0 < (s.act a).casts.length by omega]
  have e2 : (s.act b).casts[0] = s.cast b := by unfold Sh.cast; simp [show 0 < (s.act b).casts.length by omega]
  rw [e1, Nat.add_zero] at d1
  rw [e2, Nat.add_zero] at d2
  have u1 : s.cast a < 65536 := by rw [← e1]; exact (h.bit ha).2.2 _ (List.getElem_mem _)
  have u2 : s.cast b < 65536 := by rw [← e2]; exact (h.bit hb).2.2 _ (List.getElem_mem _)
  have hi := Sh.tired_iff (s := s) hok ha (b := b) (bt := bt) hbt.1
  have Ht := Lib.hid (fun q hq hx => hi.2 ⟨q, hq, hx⟩)
  have Hf := Lib.hid (show (∀ q, q < s.rest.length → ((s.cast a).testBit q && (s.cast b).testBit q && decide (bt < s.rest.getD q 0)) = false) → s.tired a b bt = false from fun hx => by
    cases ht : s.tired a b bt
    · rfl
    · obtain ⟨q, h1, h2⟩ := hi.1 ht; rw [hx q h1] at h2; cases h2)
  have HA1 := Lib.hid (fun k hk W => has_any (s.cast a) k W u1 hk)
  have HA2 := Lib.hid (fun k hk W => has_any (s.cast b) k W u2 hk)
  generalize s.tired a b bt = res at *
  have han : (a : Int) < (s.acts.length : Int) := by omega
  have hbn : (b : Int) < (s.acts.length : Int) := by omega
  have ha0 : (0 : Int) ≤ a := by omega
  have hbb0 : (0 : Int) ≤ b := by omega
  have la : (0 : Int) < ((s.act a).casts.length : Int) := by omega
  have lb : (0 : Int) < ((s.act b).casts.length : Int) := by omega
  have hxa := Lib.hid (show ∀ q, (s.cast a).testBit q = (s.cast a).testBit q from fun _ => rfl)
  clear e1 e2 hC1 hC2 h hok hi
  generalize (s.act a).casts.length = n1 at *
  generalize (s.act b).casts.length = n2 at *
  have HA := Lib.hid hA
  clear hA hxa
  unfold shV at *
  unfold shC at *
  go_enter Tryz.func53, Tryz.ntmps53
  go_upto_region 1 with fail
  change Blk (w.alloc (.cells #[.slice p.A s.acts.length p.cA, .slice p.R s.rest.length p.cR, .slice p.I s.ins.length p.cI, .slice p.O s.outs.length p.cO, .int .i64 s.cover, .int .i64 s.dull, .slice p.B s.before.length p.cB] 26)) _ _ _ at hS
  change World.cell? (w.alloc (.cells #[.slice p.A s.acts.length p.cA, .slice p.R s.rest.length p.cR, .slice p.I s.ins.length p.cI, .slice p.O s.outs.length p.cO, .int .i64 s.cover, .int .i64 s.dull, .slice p.B s.before.length p.cB] 26)) _ = _ at a3 b3 d1 d2
  generalize w.alloc (.cells #[.slice p.A s.acts.length p.cA, .slice p.R s.rest.length p.cR, .slice p.I s.ins.length p.cI, .slice p.O s.outs.length p.cO, .int .i64 s.cover, .int .i64 s.dull, .slice p.B s.before.length p.cB] 26) = W0 at *
  have x0 : W0.cell? ⟨w.heap.size, 0, none⟩ = _ := hS.cell (i := 0) rfl
  rw [HA.out] at x0
  go_wp2
  go_loopw [9] (fun t wr => ∃ i : Nat, t = .int .i64 i ∧ i ≤ s.rest.length ∧ Hid (∀ q, q < i → ((s.cast a).testBit q && (s.cast b).testBit q && decide (bt < s.rest.getD q 0)) = false) ∧ wr = W0) (fun t _ => s.rest.length - (intOf t).toNat)
  case atStart => exact ⟨0, rfl, by omega, Lib.hid (by intro q hq; omega), rfl⟩
  case round =>
    obtain ⟨i, rfl, hi, Hno, rfl⟩ := hrel
    by_cases hlt : i < s.rest.length
    · have hlt' : (i : Int) < (s.rest.length : Int) := by omega
      have hi0 : (0 : Int) ≤ i := by omega
      obtain ⟨br, orr, hR, -, cr⟩ := Hh.out.rest.at1 hlt rfl
      have x1 : wr.cell? ⟨w.heap.size, 1, none⟩ = _ := hS.cell (i := 1) rfl
      rw [hR] at x1
      have C1 := HA1.out i (by omega) wr
      have C2 := HA2.out i (by omega) wr
      have h16 : decide (i < 16) = true := by simp; omega
      rw [h16, Bool.true_and] at C1 C2
      have C1 := Lib.hid C1
      have C2 := Lib.hid C2
      have Hti := Lib.hid (Ht.out i hlt)
      have Hfi := Lib.hid (show ((s.cast a).testBit i && (s.cast b).testBit i && decide (bt < s.rest.getD i 0)) = false → ∀ q, q < i + 1 → ((s.cast a).testBit q && (s.cast b).testBit q && decide (bt < s.rest.getD q 0)) = false from fun hx q hq => by
        rcases Nat.lt_or_ge q i with h1 | h1
        · exact Hno.out q h1
        · obtain rfl : q = i := by omega
          exact hx)
      have hg : s.rest.getD i 0 = s.rest[i] := by simp [hlt]
      rw [hg] at Hti Hfi
      generalize s.rest[i] = v at *
      clear hR hg HA1 HA2 h16
      generalize (s.cast a).testBit i = xa at *
      generalize (s.cast b).testBit i = xb at *
      cases xa
      · have HN := Lib.hid (Hfi.out (by simp))
        clear Hti Hfi cr
        go_wp2_with fail
        refine C1.out.mono ?_; rintro e w1 ⟨rfl, rfl⟩
        go_wp2
        go_roundw
        case rel => exact ⟨i + 1, by go_num, by omega, HN, by first | rfl | trivial⟩
        case measure => simp [intOf]; omega
      · cases xb
        · have HN := Lib.hid (Hfi.out (by simp))
          clear Hti Hfi cr
          go_wp2_with fail
          refine C1.out.mono ?_; rintro e w1 ⟨rfl, rfl⟩
          go_wp2_with fail
          refine C2.out.mono ?_; rintro e w1 ⟨rfl, rfl⟩
          go_wp2
          go_roundw
          case rel => exact ⟨i + 1, by go_num, by omega, HN, by first | rfl | trivial⟩
          case measure => simp [intOf]; omega
        · by_cases hv : bt < v
          · have HT := Lib.hid (Hti.out (by simpa using hv))
            clear Hti Hfi
            go_wp2_with fail
            refine C1.out.mono ?_; rintro e w1 ⟨rfl, rfl⟩
            go_wp2_with fail
            refine C2.out.mono ?_; rintro e w1 ⟨rfl, rfl⟩
            go_wp2
            go_ret
            exact ⟨ret_congr (bool_congr HT.out.symm), hb0⟩
          · have HN := Lib.hid (Hfi.out (by simpa using hv))
            clear Hti Hfi
            go_wp2_with fail
            refine C1.out.mono ?_; rintro e w1 ⟨rfl, rfl⟩
            go_wp2_with fail
            refine C2.out.mono ?_; rintro e w1 ⟨rfl, rfl⟩
            go_wp2
            go_roundw
            case rel => exact ⟨i + 1, by go_num, by omega, HN, by first | rfl | trivial⟩
            case measure => simp [intOf]; omega
    · obtain rfl : i = s.rest.length := by omega
      have x1 : wr.cell? ⟨w.heap.size, 1, none⟩ = _ := hS.cell (i := 1) rfl
      have HN := Lib.hid (Hf.out Hno.out)
      go_wp2
      go_ret
      exact ⟨ret_congr (bool_congr HN.out.symm), hb0⟩
set_option maxRecDepth 100000 in
set_option maxHeartbeats 1000000 in
theorem RCost_any (s : Sh) (p : ShP) (A : Option Addr) (n c : Nat) (k : List Nat) (w : World) (h : ShM w s p) (hok : s.Ok) (hkn : ∀ i ∈ k, i < s.acts.length) (hn : k.length = n) (hm : n ≤ 1000) (hd : Cells w A 1 encI (toI k)) :
    Calls Tryz.prog 13 #[shV s p, .slice A n c] w fun e w' => e = .returned (.int .i64 (s.cost k)) ∧ Below w.heap.size w w' := by
  have hb0 := ext_alloc w (.cells (shC s p).toArray 26)
  have hS := Blk.new w 26 (shC s p)
  have h0 := h.ext hb0
  have hd0 := hd.ext hb0
  have Hn := Lib.hid hn
  have Hok := Lib.hid hok
  have Hkn := Lib.hid hkn
  have HR := Lib.hid (Sh.cost_to (s := s) k)
  generalize s.cost k = res at *
  clear h hd hn hok hkn
  unfold shV at *
  unfold shC at *
  go_enter Tryz.func13, Tryz.ntmps13
  go_upto_region 1 with fail
  change Blk (w.alloc (.cells #[.slice p.A s.acts.length p.cA, .slice p.R s.rest.length p.cR, .slice p.I s.ins.length p.cI, .slice p.O s.outs.length p.cO, .int .i64 s.cover, .int .i64 s.dull, .slice p.B s.before.length p.cB] 26)) _ _ _ at hS
  generalize w.alloc (.cells #[.slice p.A s.acts.length p.cA, .slice p.R s.rest.length p.cR, .slice p.I s.ins.length p.cI, .slice p.O s.outs.length p.cO, .int .i64 s.cover, .int .i64 s.dull, .slice p.B s.before.length p.cB] 26) = W0 at *
  go_wp2
  go_loopw [5, 6] (fun sm t wr => ∃ i : Nat, sm = .int .i64 (s.costTo k i) ∧ t = .int .i64 (i + 1 : Nat) ∧ i ≤ n - 1 ∧ Below W0.heap.size W0 wr) (fun _ t _ => n - (intOf t).toNat)
  case atStart => exact ⟨0, rfl, rfl, by omega, Below.refl _ _⟩
  case round =>
    obtain ⟨i, rfl, rfl, hi, hbr⟩ := hrel
    have hSr := hS.ext hbr
    have hmr := h0.ext hbr
    have hdr := hd0.ext hbr
    by_cases hlt : i + 1 < n
    · have hlt' : ((i + 1 : Nat) : Int) < (n : Int) := by omega
      have hi0 : (0 : Int) ≤ ((i + 1 : Nat) : Int) := by omega
      have hik : i < k.length := by have := Hn.out; omega
      have hik1 : i + 1 < k.length := by have := Hn.out; omega
      have ha : k[i] < s.acts.length := Hkn.out _ (List.getElem_mem hik)
      have hb : k[i + 1] < s.acts.length := Hkn.out _ (List.getElem_mem hik1)
      have hst : s.costTo k (i + 1) = s.costTo k i + s.chC (k.getD i 0) (k.getD (i + 1) 0) := rfl
      have hga : k.getD i 0 = k[i] := by simp [hik]
      have hgb : k.getD (i + 1) 0 = k[i + 1] := by simp [hik1]
      rw [hga, hgb] at hst
      have hcb := Hok.out.chC k[i] k[i + 1]
      have htb := Sh.costTo_bd Hok.out k i
      go_upto_region 5 with fail
      refine Dr.wp_region_plan 16 [] (.q [0, 1, 2, 3, 4, 5, 6, 7, 8, 9] (.e1 10 (.q [11, 12, 13, 14, 15] .done))) (by kernel_rfl) (by kernel_rfl) ?_
      have hbd := hbr.drew
      have hSd := hSr.ext (ext_drew wr)
      have hmd := hmr.ext (ext_drew wr)
      have hdd := hdr.ext (ext_drew wr)
      clear hbr hSr hmr hdr
      generalize World.drew _ = W at *
      obtain ⟨bl, ol, hAl, -, cl⟩ := hdd.at1 (k := i) (by rw [toI_len]; exact hik) rfl
      obtain ⟨bl', ol', hAl', -, cl'⟩ := hdd.at1 (k := i + 1) (by rw [toI_len]; exact hik1) rfl
      rw [hAl] at hAl'
      cases hAl'
      rw [toI_get hik] at cl
      rw [toI_get hik1] at cl'
      have CR := Lib.hid (RChange_any s p k[i] k[i + 1] W hmd Hok.out ha hb)
      have Hst := Lib.hid hst
      generalize k[i] = ka at *
      generalize k[i + 1] = kb at *
      generalize s.chC ka kb = cc at *
      generalize s.chM ka kb = cm at *
      have hsub : ((i + 1 : Nat) : Int) - 1 = (i : Int) := by omega
      have q0 := Dr.cell0 (hSd.cell (i := 0) rfl)
      have q1 := Dr.cell0 (hSd.cell (i := 1) rfl)
      have q2 := Dr.cell0 (hSd.cell (i := 2) rfl)
      have q3 := Dr.cell0 (hSd.cell (i := 3) rfl)
      have q4 := Dr.cell0 (hSd.cell (i := 4) rfl)
      have q5 := Dr.cell0 (hSd.cell (i := 5) rfl)
      have q6 := Dr.cell0 (hSd.cell (i := 6) rfl)
      subst hAl
      have c0 := Dr.cell0 cl
      have c1 := Dr.cell0 cl'
      clear hst hga hgb cl cl' hdd hmd
      refine Dr.plan_q (l := [_, _, _, _, _, _, _, _, _, _]) rfl (fun K hK => ?_)
      iterate 10 (go_big_quiet_step (fail))
      refine wpQuiet_nil (hK _ ?_); clear hK K c0 c1 q0 q1 q2 q3 q4 q5 q6
      refine Dr.plan_e rfl (by rfl) (fun K hK => ?_)
      go_wp2_with fail
      refine CR.out.mono ?_; rintro e w1 ⟨rfl, hb1⟩
      refine hK _ _ (.of hb1) ?_; clear hK K
      refine Dr.plan_q (l := [_, _, _, _, _]) rfl (fun K hK => ?_)
      iterate 5 (go_big_quiet_step (fail))
      refine wpQuiet_nil (hK _ ?_); clear hK K
      refine Dr.plan_end rfl ?_
      go_wp2
      go_roundw
      case rel => exact ⟨i + 1, by rw [Hst.out], by go_num, by omega, hbd.trans (hb1.mono hbd.size)⟩
      case measure => simp [intOf]; omega
    · have hr : res = s.costTo k i := by rw [HR.out, Hn.out, show n - 1 = i by omega]
      have HR2 := Lib.hid hr
      clear hr
      go_wp2
      go_ret
      exact ⟨by rw [HR2.out]; rfl, hb0.trans (hbr.mono hb0.size)⟩
end Go.Proofs.YtcnidhcdkbfpcaaGreat

/- Walks: the reference's Why and Fault. -/
namespace Go.Pg
open Go.Pl
namespace Sh
theorem last_take {k : List Nat} {i : Nat} (hi : i < k.length) : lastI (k.take (i + 1)) = k[i] := by
  rw [List.take_succ_eq_append_getElem hi, lastI_snoc]
theorem sec_take {k : List Nat} {i : Nat} (hi : i + 1 < k.length) : secL (k.take (i + 2)) = k[i] := by
  rw [List.take_succ_eq_append_getElem hi, secL_snoc, last_take (by omega)]
theorem last_zero (k : List Nat) : lastI (k.take 0) = -1 := rfl
theorem sec_zero (k : List Nat) : secL (k.take 0) = -1 := rfl
theorem sec_one (k : List Nat) : secL (k.take 1) = -1 := by
  cases k with
  | nil => rfl
  | cons a r => rfl
/-- the first fault at place i of an order -/
def whyAt (s : Sh) (k : List Nat) (i : Nat) : Nat := s.why (k.getD i 0) (lastI (k.take i)) (secL (k.take i)) (setOf (k.take i))
theorem faultL_at {s : Sh} (k : List Nat) : ∀ (r : List Nat) (i : Nat), k.drop i = r → s.faultL r i (lastI (k.take i)) (secL (k.take i)) (setOf (k.take i)) = match (List.range' i r.length).find? (fun j => decide (s.whyAt k j ≠ 0)) with | none => (0, 0) | some j => ((j : Int), s.whyAt k j)
  | [], _, _ => rfl
  | a :: r, i, h => by
    have hi : i < k.length := by
      rcases Nat.lt_or_ge i k.length with h1 | h1
      · exact h1
      · rw [List.drop_eq_nil_of_le h1] at h; cases h
    have ha : a = k[i] ∧ k.drop (i + 1) = r := by
      rw [List.drop_eq_getElem_cons hi] at h
      exact ⟨by injection h with h1 h2; exact h1.symm, by injection h⟩
    have hg : k.getD i 0 = a := by rw [ha.1]; simp [hi]
    have hw : s.why a (lastI (k.take i)) (secL (k.take i)) (setOf (k.take i)) = s.whyAt k i := by unfold whyAt; rw [hg]
    unfold Sh.faultL
    rw [hw, List.length_cons, List.range'_succ, List.find?_cons]
    by_cases h0 : s.whyAt k i = 0
    · rw [if_pos h0]
      have ih := faultL_at (s := s) k r (i + 1) ha.2
      have e1 : lastI (k.take (i + 1)) = a := by rw [last_take hi, ha.1]
      have e2 : secL (k.take (i + 1)) = lastI (k.take i) := by rw [List.take_succ_eq_append_getElem hi, secL_snoc]
      have e3 : setOf (k.take (i + 1)) = setOf (k.take i) ||| 2 ^ a := by rw [List.take_succ_eq_append_getElem hi, setOf_snoc, ha.1]
      rw [e1, e2, e3] at ih
      rw [ih]
      simp [h0]
    · rw [if_neg h0]
      simp [h0]
theorem fault_at {s : Sh} (k : List Nat) : s.fault k = match (List.range k.length).find? (fun j => decide (s.whyAt k j ≠ 0)) with | none => (0, 0) | some j => ((j : Int), s.whyAt k j) := by
  have := faultL_at (s := s) k k 0 rfl
  rw [List.range_eq_range']
  exact this
theorem fault_none {s : Sh} {k : List Nat} (h : ∀ i, i < k.length → s.whyAt k i = 0) : s.fault k = (0, 0) := by
  rw [fault_at, List.find?_eq_none.2 (fun j hj => by simp [h j (by simpa using hj)])]
theorem fault_some {s : Sh} {k : List Nat} {i : Nat} (hi : i < k.length) (h : ∀ j, j < i → s.whyAt k j = 0) (h2 : s.whyAt k i ≠ 0) : s.fault k = ((i : Int), s.whyAt k i) := by
  have : (List.range k.length).find? (fun j => decide (s.whyAt k j ≠ 0)) = some i := by
    rw [List.find?_range_eq_some]
    exact ⟨by simpa using h2, by simpa using hi, fun j hj => by simp [h j hj]⟩
  rw [fault_at, this]
theorem why_le {s : Sh} (i : Nat) (last sec : Int) (set : Nat) : s.why i last sec set ≤ 3 := by
  unfold why; split <;> (try split) <;> (try split) <;> omega
/-- is a pair broken at a place? -/
theorem early_iff {s : Sh} {i set : Nat} : s.early i set = true ↔ ∃ q, ∃ h : q < s.before.length, s.before[q].2 = (i : Int) ∧ set.testBit s.before[q].1.toNat = false := by
  unfold early
  rw [List.any_eq_true]
  constructor
  · rintro ⟨x, hx, h⟩
    obtain ⟨q, hq, rfl⟩ := List.mem_iff_getElem.1 hx
    simp only [Bool.and_eq_true, decide_eq_true_eq, Bool.not_eq_true'] at h
    exact ⟨q, hq, h⟩
  · rintro ⟨q, hq, h⟩
    exact ⟨_, List.getElem_mem hq, by simp only [Bool.and_eq_true, decide_eq_true_eq, Bool.not_eq_true']; exact h⟩
end Sh
end Go.Pg
namespace Go.Pg
open Go.Pl
namespace Sh
theorem whyAt_zero {s : Sh} (k : List Nat) : s.whyAt k 0 = if s.early (k.getD 0 0) (setOf (k.take 0)) = true then 3 else 0 := by
  unfold whyAt why
  rw [last_zero, sec_zero]
  rfl
theorem whyAt_one {s : Sh} {k : List Nat} (h : 1 < k.length) : s.whyAt k 1 = if s.cover < s.chM k[0] k[1] then 1 else if s.tired k[0] k[1] 0 = true then 2 else if s.early (k.getD 1 0) (setOf (k.take 1)) = true then 3 else 0 := by
  unfold whyAt why
  rw [show k.getD 1 0 = k[1] by simp [h], sec_one, last_take (i := 0) (by omega)]
  have h0 : decide ((0 : Int) ≤ ((k[0] : Nat) : Int)) = true := by simp
  have h1 : decide ((0 : Int) ≤ -1) = false := rfl
  rw [h0, h1, Int.toNat_natCast, Bool.true_and, Bool.true_and, Bool.false_and, Bool.or_false]
  simp only [decide_eq_true_eq]
set_option maxRecDepth 100000 in
theorem whyAt_two {s : Sh} {k : List Nat} {j : Nat} (h : j + 2 < k.length) : s.whyAt k (j + 2) = if s.cover < s.chM k[j + 1] k[j + 2] then 1 else if (s.tired k[j + 1] k[j + 2] 0 || s.tired k[j] k[j + 2] 1) = true then 2 else if s.early (k.getD (j + 2) 0) (setOf (k.take (j + 2))) = true then 3 else 0 := by
  unfold whyAt why
  rw [show k.getD (j + 2) 0 = k[j + 2] by simp [h], sec_take (i := j) (by omega), last_take (i := j + 1) (by omega)]
  have h0 : decide ((0 : Int) ≤ ((k[j + 1] : Nat) : Int)) = true := by simp
  have h1 : decide ((0 : Int) ≤ ((k[j] : Nat) : Int)) = true := by simp
  rw [h0, h1, Int.toNat_natCast, Int.toNat_natCast, Bool.true_and, Bool.true_and, Bool.true_and]
  by_cases h5 : s.cover < s.chM k[j + 1] k[j + 2]
  · rw [if_pos (decide_eq_true h5), if_pos h5]
  · rw [if_neg (fun h6 => h5 (of_decide_eq_true h6)), if_neg h5]
theorem contains_take {k : List Nat} {j : Nat} (h : j < k.length) (x : Nat) : (k.take (j + 1)).contains x = ((k.take j).contains x || k[j] == x) := by
  rw [Bool.eq_iff_iff, List.take_succ_eq_append_getElem h]
  simp only [List.contains_iff_mem, Bool.or_eq_true, List.mem_append, List.mem_singleton, beq_iff_eq]
  exact or_congr Iff.rfl eq_comm
end Sh
end Go.Pg
namespace Go.Proofs.YtcnidhcdkbfpcaaGreat
open Go.RowKit Go.Bs Go.Pg Go.Pl Go.Sort
set_option maxRecDepth 100000 in
set_option maxHeartbeats 2000000 in
theorem RWhy_any (s : Sh) (p : ShP) (A : Option Addr) (n c : Nat) (k : List Nat) (i : Nat) (w : World) (h : ShM w s p) (hok : s.Ok) (hkn : ∀ i ∈ k, i < s.acts.length) (hn : k.length = n) (hm : n ≤ 1000) (hi : i < n) (hd : Cells w A 1 encI (toI k)) :
    Calls Tryz.prog 52 #[shV s p, .slice A n c, .int .i64 i] w fun e w' => e = .returned (.int .u8 (s.whyAt k i)) ∧ Below w.heap.size w w' := by
  have hb0 := ext_alloc w (.cells (shC s p).toArray 26)
  have hS := Blk.new w 26 (shC s p)
  have h0 := h.ext hb0
  have hd0 := hd.ext hb0
  have Hn := Lib.hid hn
  have Hok := Lib.hid hok
  have Hkn := Lib.hid hkn
  have n8 := hok.n8
  have b20 := hok.b20
  have Hy0 := Lib.hid (Sh.whyAt_zero (s := s) k)
  have Hy1 := Lib.hid (fun h => Sh.whyAt_one (s := s) (k := k) h)
  have Hy2 := Lib.hid (fun j h => Sh.whyAt_two (s := s) (k := k) (j := j) h)
  have HR := Lib.hid (show ∀ x : Nat, s.whyAt k i = x → Ending.returned (.int .u8 (x : Int)) = .returned (.int .u8 (s.whyAt k i : Int)) from fun x hx => by rw [hx])
  clear h hd hn hok hkn
  unfold shV at *
  unfold shC at *
  go_enter Tryz.func52, Tryz.ntmps52
  go_upto_if 13 with fail
  change Blk (w.alloc (.cells #[.slice p.A s.acts.length p.cA, .slice p.R s.rest.length p.cR, .slice p.I s.ins.length p.cI, .slice p.O s.outs.length p.cO, .int .i64 s.cover, .int .i64 s.dull, .slice p.B s.before.length p.cB] 26)) _ _ _ at hS
  generalize w.alloc (.cells #[.slice p.A s.acts.length p.cA, .slice p.R s.rest.length p.cR, .slice p.I s.ins.length p.cI, .slice p.O s.outs.length p.cO, .int .i64 s.cover, .int .i64 s.dull, .slice p.B s.before.length p.cB] 26) = W0 at *
  go_cut [6] (fun z Wc => z = .int .u8 0 ∧ Hid (s.whyAt k i = if s.early (k.getD i 0) (Sh.setOf (k.take i)) = true then 3 else 0) ∧ Below W0.heap.size W0 Wc)
  case first =>
    cases i with
    | zero =>
      go_wp2
      go_meet
      case rel => exact ⟨rfl, Hy0, Below.refl _ _⟩
    | succ j =>
      have hpos : ((j + 1 : Nat) : Int) > 0 := by omega
      have hsub : ((j + 1 : Nat) : Int) - 1 = (j : Int) := by omega
      have hj0 : (0 : Int) ≤ (j : Int) := by omega
      have hj1 : (j : Int) < (n : Int) := by omega
      have hj3 : (0 : Int) ≤ ((j + 1 : Nat) : Int) := by omega
      have hj4 : ((j + 1 : Nat) : Int) < (n : Int) := by omega
      have hjk : j < k.length := by have := Hn.out; omega
      have hjk1 : j + 1 < k.length := by have := Hn.out; omega
      have ha : k[j] < s.acts.length := Hkn.out _ (List.getElem_mem hjk)
      have hb : k[j + 1] < s.acts.length := Hkn.out _ (List.getElem_mem hjk1)
      go_upto_region 2 with fail
      refine Dr.wp_region_plan 16 [] (.q [0, 1, 2, 3, 4, 5, 6, 7, 8, 9] (.e1 10 (.q [11, 12, 13, 14, 15] .done))) (by kernel_rfl) (by kernel_rfl) ?_
      have hbd := ext_drew W0
      have hSd := hS.ext hbd
      have hmd := h0.ext hbd
      have hdd := hd0.ext hbd
      generalize World.drew _ = W at *
      have Hmd := Lib.hid hmd
      have Hdd := Lib.hid hdd
      obtain ⟨bl, ol, hAl, -, cl⟩ := hdd.at1 (k := j) (by rw [toI_len]; exact hjk) rfl
      obtain ⟨bl', ol', hAl', -, cl'⟩ := hdd.at1 (k := j + 1) (by rw [toI_len]; exact hjk1) rfl
      rw [hAl] at hAl'
      cases hAl'
      rw [toI_get hjk] at cl
      rw [toI_get hjk1] at cl'
      have CR := Lib.hid (RChange_any s p k[j] k[j + 1] W hmd Hok.out ha hb)
      have Ha := Lib.hid ha
      have Hb := Lib.hid hb
      generalize hka : k[j] = ka at *
      generalize hkb : k[j + 1] = kb at *
      have Hka := Lib.hid hka
      have Hkb := Lib.hid hkb
      have hcmb := Hok.out.chM ka kb
      generalize hcc : s.chC ka kb = cc at *
      generalize hcm : s.chM ka kb = cm at *
      have Hcm := Lib.hid hcm
      clear hka hkb hcc hcm ha hb

      have q0 := Dr.cell0 (hSd.cell (i := 0) rfl)
      have q1 := Dr.cell0 (hSd.cell (i := 1) rfl)
      have q2 := Dr.cell0 (hSd.cell (i := 2) rfl)
      have q3 := Dr.cell0 (hSd.cell (i := 3) rfl)
      have q4 := Dr.cell0 (hSd.cell (i := 4) rfl)
      have q5 := Dr.cell0 (hSd.cell (i := 5) rfl)
      have q6 := Dr.cell0 (hSd.cell (i := 6) rfl)
      subst hAl
      have c0 := Dr.cell0 cl
      have c1 := Dr.cell0 cl'
      clear cl cl' hdd hmd
      refine Dr.plan_q (l := [_, _, _, _, _, _, _, _, _, _]) rfl (fun K hK => ?_)
      iterate 10 (go_big_quiet_step (fail))
      refine wpQuiet_nil (hK _ ?_); clear hK K c0 c1 q0 q1 q2 q3 q4 q5 q6
      refine Dr.plan_e rfl (by rfl) (fun K hK => ?_)
      go_wp2_with fail
      refine CR.out.mono ?_; rintro e w1 ⟨rfl, hb1⟩
      refine hK _ _ (.of hb1) ?_; clear hK K
      refine Dr.plan_q (l := [_, _, _, _, _]) rfl (fun K hK => ?_)
      iterate 5 (go_big_quiet_step (fail))
      refine wpQuiet_nil (hK _ ?_); clear hK K
      refine Dr.plan_end rfl ?_
      have hbe := ext_trans hbd hb1
      have hSe := hSd.ext hb1
      have hme := Hmd.out.ext hb1
      have hde := Hdd.out.ext hb1
      clear hbd hb1 hSd Hmd Hdd CR
      go_upto_region 3 with fail
      have x4 : w1.cell? ⟨w.heap.size, 4, none⟩ = _ := hSe.cell (i := 4) rfl
      by_cases hcv : s.cover < cm
      · have hy : s.whyAt k (j + 1) = 1 := by
          cases j with
          | zero =>
            rw [Hy1.out hjk1, if_pos]
            have e1 := Hka.out
            have e2 := Hkb.out
            rw [e1, e2, Hcm.out]; exact hcv
          | succ j =>
            rw [Hy2.out j hjk1, if_pos]
            have e1 := Hka.out
            have e2 := Hkb.out
            rw [e1, e2, Hcm.out]; exact hcv
        have HyR := Lib.hid (HR.out _ hy)
        have hcv' : cm > s.cover := hcv
        clear hy
        go_wp2
        go_ret
        exact ⟨HyR.out, hb0.trans (hbe.mono hb0.size)⟩
      have hcv' : ¬ cm > s.cover := hcv
      have Hcv := Lib.hid hcv
      clear hcv
      go_upto_region 5 with fail
      clear x4
      refine Dr.wp_region_plan 28 [] (.q [0, 1, 2, 3, 4, 5, 6, 7, 8, 9] (.e1 10 (.q [11, 12, 13, 14, 15, 16, 17, 18, 19, 20, 21, 22, 23, 24] (.e1 25 (.q [26, 27] .done))))) (by kernel_rfl) (by kernel_rfl) ?_
      have hbf := ext_trans hbe (ext_drew w1)
      have hSf := hSe.ext (ext_drew w1)
      have hmf := hme.ext (ext_drew w1)
      have hdf := hde.ext (ext_drew w1)
      clear hbe hSe hme hde
      generalize World.drew _ = V at *
      have Hmf := Lib.hid hmf
      have Hdf := Lib.hid hdf
      obtain ⟨bl9, ol9, hAl, -, cl⟩ := hdf.at1 (k := j) (by rw [toI_len]; exact hjk) rfl
      obtain ⟨bl', ol', hAl', -, cl'⟩ := hdf.at1 (k := j + 1) (by rw [toI_len]; exact hjk1) rfl
      cases hAl
      cases hAl'
      rw [toI_get hjk, Hka.out] at cl
      rw [toI_get hjk1, Hkb.out] at cl'
      have CR := Lib.hid (RTired_any s p ka kb 0 V hmf Hok.out Ha.out Hb.out (by omega))
      generalize ht1 : s.tired ka kb 0 = t1 at *
      have Ht1 := Lib.hid ht1
      clear ht1
      have q0 := Dr.cell0 (hSf.cell (i := 0) rfl)
      have q1 := Dr.cell0 (hSf.cell (i := 1) rfl)
      have q2 := Dr.cell0 (hSf.cell (i := 2) rfl)
      have q3 := Dr.cell0 (hSf.cell (i := 3) rfl)
      have q4 := Dr.cell0 (hSf.cell (i := 4) rfl)
      have q5 := Dr.cell0 (hSf.cell (i := 5) rfl)
      have q6 := Dr.cell0 (hSf.cell (i := 6) rfl)
      have c0 := Dr.cell0 cl
      have c1 := Dr.cell0 cl'
      clear cl cl' hdf hmf
      refine Dr.plan_q (l := [_, _, _, _, _, _, _, _, _, _]) rfl (fun K hK => ?_)
      iterate 10 (go_big_quiet_step (fail))
      refine wpQuiet_nil (hK _ ?_); clear hK K c0 c1 q0 q1 q2 q3 q4 q5 q6
      refine Dr.plan_e rfl (by rfl) (fun K hK => ?_)
      go_wp2_with fail
      refine CR.out.mono ?_; rintro e w2 ⟨rfl, hb2⟩
      refine hK _ _ (.of hb2) ?_; clear hK K
      have hbg := ext_trans hbf hb2
      have hSg := hSf.ext hb2
      have hmg := Hmf.out.ext hb2
      have hdg := Hdf.out.ext hb2
      clear hbf hb2 hSf Hmf Hdf CR
      have hfin : t1 = true → s.whyAt k (j + 1) = 2 := by
        intro ht
        have e1 := Hka.out
        have e2 := Hkb.out
        have e3 := Ht1.out
        cases j with
        | zero =>
          rw [Hy1.out hjk1, if_neg (by rw [e1, e2, Hcm.out]; have := Hcv.out; omega), if_pos (by rw [e1, e2, e3, ht])]
        | succ j =>
          rw [Hy2.out j hjk1, if_neg (by rw [e1, e2, Hcm.out]; have := Hcv.out; omega), if_pos (by rw [e1, e2, e3, ht]; rfl)]
      cases t1
      rotate_left
      · have HyR := Lib.hid (HR.out _ (hfin rfl))
        clear hfin
        refine Dr.plan_q (l := [_, _, _, _, _, _, _, _, _, _, _, _, _, _]) rfl (fun K hK => ?_)
        iterate 14 (go_big_quiet_step (fail))
        refine wpQuiet_nil (hK _ ?_); clear hK K
        refine Dr.plan_e_skip rfl (by rfl) ?_; go_frame
        refine Dr.plan_q (l := [_, _]) rfl (fun K hK => ?_)
        iterate 2 (go_big_quiet_step (fail))
        refine wpQuiet_nil (hK _ ?_); clear hK K
        refine Dr.plan_end rfl ?_
        go_wp2
        go_ret
        exact ⟨HyR.out, hb0.trans (hbg.mono hb0.size)⟩
      clear hfin
      cases j with
      | zero =>
        have hy : s.whyAt k 1 = if s.early (k.getD 1 0) (Sh.setOf (k.take 1)) = true then 3 else 0 := by
          have e1 := Hka.out
          have e2 := Hkb.out
          have e3 := Ht1.out
          rw [Hy1.out hjk1, if_neg (by rw [e1, e2, Hcm.out]; have := Hcv.out; omega), if_neg (by rw [e1, e2, e3]; simp)]
        have HY := Lib.hid hy
        have hng : ¬ ((0 + 1 : Nat) : Int) > 1 := by omega
        clear hy
        refine Dr.plan_q (l := [_, _, _, _, _, _, _, _, _, _, _, _, _, _]) rfl (fun K hK => ?_)
        iterate 14 (go_big_quiet_step (fail))
        refine wpQuiet_nil (hK _ ?_); clear hK K
        refine Dr.plan_e_skip rfl (by rfl) ?_; go_frame
        refine Dr.plan_q (l := [_, _]) rfl (fun K hK => ?_)
        iterate 2 (go_big_quiet_step (fail))
        refine wpQuiet_nil (hK _ ?_); clear hK K
        refine Dr.plan_end rfl ?_
        go_wp2
        go_meet
        case rel => exact ⟨rfl, HY, hbg⟩
      | succ j =>
        have hng : ((j + 1 + 1 : Nat) : Int) > 1 := by omega
        have hngA : (1 : Int) < ((j + 1 + 1 : Nat) : Int) := hng
        have hngB : (1 : Int) < (j : Int) + 1 + 1 := by omega
        have hngC : (0 : Int) < (j : Int) + 1 := by omega
        have hsub2 : ((j + 1 + 1 : Nat) : Int) - 2 = (j : Int) := by omega
        have hj8 : (0 : Int) ≤ (j : Int) := by omega
        have hj9 : (j : Int) < (n : Int) := by omega
        have hjj : j < k.length := by omega
        have hc : k[j] < s.acts.length := Hkn.out _ (List.getElem_mem hjj)
        obtain ⟨bl9, ol9, hAl, -, cl⟩ := hdg.at1 (k := j) (by rw [toI_len]; exact hjj) rfl
        obtain ⟨bl', ol', hAl', -, cl'⟩ := hdg.at1 (k := j + 1 + 1) (by rw [toI_len]; exact hjk1) rfl
        cases hAl
        cases hAl'
        rw [toI_get hjj] at cl
        rw [toI_get hjk1, Hkb.out] at cl'
        have CR := Lib.hid (RTired_any s p k[j] kb 1 w2 hmg Hok.out hc Hb.out (by omega))
        generalize hkc : k[j] = kc at *
        generalize ht2 : s.tired kc kb 1 = t2 at *
        have Ht2 := Lib.hid ht2
        have Hkc := Lib.hid hkc
        clear ht2 hkc hc
        have q0 := Dr.cell0 (hSg.cell (i := 0) rfl)
        have q1 := Dr.cell0 (hSg.cell (i := 1) rfl)
        have q2 := Dr.cell0 (hSg.cell (i := 2) rfl)
        have q3 := Dr.cell0 (hSg.cell (i := 3) rfl)
        have q4 := Dr.cell0 (hSg.cell (i := 4) rfl)
        have q5 := Dr.cell0 (hSg.cell (i := 5) rfl)
        have q6 := Dr.cell0 (hSg.cell (i := 6) rfl)
        have c0 := Dr.cell0 cl
        have c1 := Dr.cell0 cl'
        clear cl cl' hdg hmg
        have hy : s.whyAt k (j + 1 + 1) = if t2 = true then 2 else if s.early (k.getD (j + 1 + 1) 0) (Sh.setOf (k.take (j + 1 + 1))) = true then 3 else 0 := by
          have e1 := Hka.out
          have e2 := Hkb.out
          have e3 := Ht1.out
          have e4 := Ht2.out
          have e5 := Hkc.out
          rw [Hy2.out j hjk1, if_neg (by rw [e1, e2, Hcm.out]; have := Hcv.out; omega), e1, e2, e3, e5, e4, Bool.false_or]
        have HY := Lib.hid hy
        clear hy
        refine Dr.plan_q (l := [_, _, _, _, _, _, _, _, _, _, _, _, _, _]) rfl (fun K hK => ?_)
        iterate 14 (go_big_quiet_step (fail))
        refine wpQuiet_nil (hK _ ?_); clear hK K c0 c1 q0 q1 q2 q3 q4 q5 q6
        refine Dr.plan_e rfl (by rfl) (fun K hK => ?_)
        go_wp2_with fail
        refine CR.out.mono ?_; rintro e w3 ⟨rfl, hb3⟩
        refine hK _ _ (.of hb3) ?_; clear hK K
        have hbh := ext_trans hbg hb3
        clear hbg hb3 CR
        refine Dr.plan_q (l := [_, _]) rfl (fun K hK => ?_)
        iterate 2 (go_big_quiet_step (fail))
        refine wpQuiet_nil (hK _ ?_); clear hK K
        refine Dr.plan_end rfl ?_
        cases t2
        · have HY2 : Hid (s.whyAt k (j + 1 + 1) = if s.early (k.getD (j + 1 + 1) 0) (Sh.setOf (k.take (j + 1 + 1))) = true then 3 else 0) := Lib.hid (by rw [HY.out]; simp)
          go_wp2
          go_meet
          case rel => exact ⟨rfl, HY2, hbh⟩
        · have HyR := Lib.hid (HR.out 2 (by rw [HY.out]; simp))
          go_wp2
          go_ret
          exact ⟨HyR.out, hb0.trans (hbh.mono hb0.size)⟩
  case rest =>
    obtain ⟨rfl, HY, hbc⟩ := hcut
    have hSc := hS.ext hbc
    have hmc := h0.ext hbc
    have hdc := hd0.ext hbc
    have hwc := hb0.trans (hbc.mono hb0.size)
    clear hbc hS h0 hd0 hb0 Hy0 Hy1 Hy2
    have hik : i < k.length := by have := Hn.out; omega
    have hi0 : (0 : Int) ≤ (i : Int) := by omega
    have hi1 : (i : Int) < (n : Int) := by omega
    have hga : k.getD i 0 = k[i] := by simp [hik]
    rw [hga] at HY
    have HE := Lib.hid (Sh.early_iff (s := s) (i := k[i]) (set := Sh.setOf (k.take i)))
    have Ht := Lib.hid (fun q (hq : q < s.before.length) (h1 : s.before[q].2 = (k[i] : Int)) (h2 : (k.take i).contains s.before[q].1.toNat = false) => HR.out 3 (by rw [HY.out, if_pos (HE.out.2 ⟨q, hq, h1, by rw [Sh.setOf_bit]; exact h2⟩)]))
    have Hf := Lib.hid (fun (hx : ∀ q (hq : q < s.before.length), s.before[q].2 = (k[i] : Int) → (k.take i).contains s.before[q].1.toNat = true) => HR.out 0 (by
      rw [HY.out, if_neg]
      intro he
      obtain ⟨q, hq, h1, h2⟩ := HE.out.1 he
      rw [Sh.setOf_bit, hx q hq h1] at h2
      cases h2))
    have Hca := Lib.hid (fun j (hj : j < k.length) x => Sh.contains_take hj x)
    clear HE HY hga HR
    go_upto_block 0 with fail
    go_wp2
    go_loopw [9] (fun t wr => ∃ q : Nat, t = .int .i64 q ∧ q ≤ s.before.length ∧ Hid (∀ j (hj : j < s.before.length), j < q → s.before[j].2 = (k[i] : Int) → (k.take i).contains s.before[j].1.toNat = true) ∧ Below wc.heap.size wc wr) (fun t _ => s.before.length - (intOf t).toNat)
    case atStart => exact ⟨0, rfl, by omega, Lib.hid (by intro j _ hj; omega), Below.refl _ _⟩
    case round =>
      obtain ⟨q, rfl, hq, Hno, hbr⟩ := hrel
      have hSr := hSc.ext hbr
      have hmr := hmc.ext hbr
      have hdr := hdc.ext hbr
      have x6 : wr.cell? ⟨w.heap.size, 6, none⟩ = _ := hSr.cell (i := 6) rfl
      by_cases hlt : q < s.before.length
      rotate_left
      · obtain rfl : q = s.before.length := by omega
        have HF := Lib.hid (Hf.out (fun j hj => Hno.out j hj hj))
        go_wp2
        go_ret
        exact ⟨HF.out, hwc.trans (hbr.mono hwc.size)⟩
      have hlt' : (q : Int) < (s.before.length : Int) := by omega
      have hq0 : (0 : Int) ≤ (q : Int) := by omega
      go_upto_region 10 with fail
      refine Dr.wp_region_plan 11 [] (.q [0, 1, 2, 3, 4, 5, 6, 7, 8, 9, 10] .done) (by kernel_rfl) (by kernel_rfl) ?_
      have hbd := hbr.drew
      have hSd := hSr.ext (ext_drew wr)
      have hmd := hmr.ext (ext_drew wr)
      have hdd := hdr.ext (ext_drew wr)
      clear hbr hSr hmr hdr x6
      generalize World.drew _ = W at *
      have Hmd := Lib.hid hmd
      have Hdd := Lib.hid hdd
      have HSd := Lib.hid hSd
      obtain ⟨bl, ol, hAl, -, cl⟩ := hdd.at1 (k := i) (by rw [toI_len]; exact hik) rfl
      rw [toI_get hik] at cl
      obtain ⟨bp, op, hB, -, cp0, cp1⟩ := hmd.before.at2 hlt rfl
      rw [hB] at hSd
      have hpb := Hok.out.before _ (List.getElem_mem hlt)
      have hp0 : 0 ≤ s.before[q].1 := by
        unfold Sh.pairB at hpb
        simp only [Bool.and_eq_true, btw_iff] at hpb
        exact hpb.1.1.1
      have Hti := Lib.hid (Ht.out q hlt)
      have Hfi := Lib.hid (show (s.before[q].2 = (k[i] : Int) → (k.take i).contains s.before[q].1.toNat = true) → ∀ j (hj : j < s.before.length), j < q + 1 → s.before[j].2 = (k[i] : Int) → (k.take i).contains s.before[j].1.toNat = true from fun hx j hj hjq => by
        rcases Nat.lt_or_ge j q with h1 | h1
        · exact Hno.out j hj h1
        · obtain rfl : j = q := by omega
          exact hx)
      have Hvb := Lib.hid (show s.before[q].1 = s.before[q].1 from rfl)
      generalize hfa : s.before[q].1 = fa at *
      generalize hfb : s.before[q].2 = fb at *
      generalize hki : k[i] = ki at *
      have Hfa := Lib.hid hfa
      have Hfb := Lib.hid hfb
      have Hki := Lib.hid hki
      clear hfa hfb hki hB hpb Hvb hmd hdd
      subst hAl
      have q0 := Dr.cell0 (hSd.cell (i := 6) rfl)
      have q1 := Dr.cell0 cl
      have q2 := Dr.cell0 cp1
      refine Dr.plan_q (l := [_, _, _, _, _, _, _, _, _, _, _]) rfl (fun K hK => ?_)
      iterate 11 (go_big_quiet_step (fail))
      refine wpQuiet_nil (hK _ ?_); clear hK K q0 q1 q2
      refine Dr.plan_end rfl ?_
      by_cases heq : fb = (ki : Int)
      rotate_left
      · have hne : (fb != (ki : Int)) = true := by simp [heq]
        have HN := Lib.hid (Hfi.out (fun h => absurd h heq))
        have Heq := Lib.hid heq
        clear heq
        go_wp2
        go_roundw
        case rel => exact ⟨q + 1, by go_num, by omega, (by rw [← Hki.out] at HN; exact HN), hbd⟩
        case measure => simp [intOf]; omega
      have hne : (fb != (ki : Int)) = false := by simp [heq]
      have Hti2 := Lib.hid (Hti.out heq)
      have Hfi2 := Lib.hid (fun hx => Hfi.out (fun _ => hx))
      have Heq := Lib.hid heq
      clear heq Hti Hfi
      go_upto_block 2 with fail
      go_wp2
      generalize wr = w4 at *
      go_loopw [10, 11] (fun b t wq => ∃ j : Nat, b = .bool ((k.take j).contains fa.toNat) ∧ t = .int .i64 j ∧ j ≤ i ∧ Below W.heap.size W wq) (fun _ t _ => i - (intOf t).toNat)
      case atStart => exact ⟨0, by simp, rfl, by omega, Below.refl _ _⟩
      case round =>
        obtain ⟨j, rfl, rfl, hj, hbs⟩ := hrel
        by_cases hltj : j < i
        · have hltj' : (j : Int) < (i : Int) := by omega
          have hj0 : (0 : Int) ≤ (j : Int) := by omega
          have hj1 : (j : Int) < (n : Int) := by omega
          have hjk : j < k.length := by omega
          have Hstep := Lib.hid (Hca.out j hjk fa.toNat)
          generalize (k.take j).contains fa.toNat = T at *
          go_upto_region 15 with fail
          refine Dr.wp_region_plan 15 [] (.q [0, 1, 2, 3, 4, 5, 6, 7, 8, 9, 10, 11, 12, 13, 14] .done) (by kernel_rfl) (by kernel_rfl) ?_
          have hbe := hbs.drew
          have hSe := HSd.out.ext hbe
          have hme := Hmd.out.ext hbe
          have hde := Hdd.out.ext hbe
          clear hbs
          generalize World.drew _ = V at *
          cases T
          · obtain ⟨bl2, ol2, hAl, -, cl2⟩ := hde.at1 (k := j) (by rw [toI_len]; exact hjk) rfl
            rw [toI_get hjk] at cl2
            cases hAl
            obtain ⟨bp2, op2, hB2, -, dp0, dp1⟩ := hme.before.at2 hlt rfl
            rw [hB2] at hSe
            rw [Hfa.out] at dp0
            generalize k[j] = kj at *
            have hbq : ((kj : Int) == fa) = (kj == fa.toNat) := by rw [Bool.eq_iff_iff]; simp; omega
            have q0 := Dr.cell0 (hSe.cell (i := 6) rfl)
            have q1 := Dr.cell0 cl2
            have q2 := Dr.cell0 dp0
            have Hbq := Lib.hid hbq
            clear hB2 hbq cl2 dp0 dp1 hme hde hSe
            refine Dr.plan_q (l := [_, _, _, _, _, _, _, _, _, _, _, _, _, _, _]) rfl (fun K hK => ?_)
            iterate 15 (go_big_quiet_step (fail))
            refine wpQuiet_nil (hK _ ?_); clear hK K q0 q1 q2
            refine Dr.plan_end rfl ?_
            go_wp2
            go_roundw
            case rel => exact ⟨j + 1, by rw [Hstep.out, Bool.false_or, Hbq.out], by go_num, by omega, hbe⟩
            case measure => simp [intOf]; omega
          · clear hSe hme hde
            refine Dr.plan_q (l := [_, _, _, _, _, _, _, _, _, _, _, _, _, _, _]) rfl (fun K hK => ?_)
            iterate 15 (go_big_quiet_step (fail))
            refine wpQuiet_nil (hK _ ?_); clear hK K
            refine Dr.plan_end rfl ?_
            go_wp2
            go_roundw
            case rel => exact ⟨j + 1, by rw [Hstep.out, Bool.true_or], by go_num, by omega, hbe⟩
            case measure => simp [intOf]; omega
        · obtain rfl : j = i := by omega
          generalize (k.take j).contains fa.toNat = T at *
          cases T
          · have HT := Lib.hid (Hti2.out rfl)
            go_wp2
            go_ret
            exact ⟨HT.out, hwc.trans ((hbd.trans (hbs.mono hbd.size)).mono hwc.size)⟩
          · have HN := Lib.hid (Hfi2.out rfl)
            go_wp2
            go_roundw
            case rel => exact ⟨q + 1, by go_num, by omega, (by rw [← Hki.out] at HN; exact HN), hbd.trans (hbs.mono hbd.size)⟩
            case measure => simp [intOf]; omega
set_option maxRecDepth 100000 in
set_option maxHeartbeats 1000000 in
theorem RFault_any (s : Sh) (p : ShP) (A : Option Addr) (n c : Nat) (k : List Nat) (w : World) (h : ShM w s p) (hok : s.Ok) (hkn : ∀ i ∈ k, i < s.acts.length) (hn : k.length = n) (hm : n ≤ 1000) (hd : Cells w A 1 encI (toI k)) :
    Calls Tryz.prog 28 #[shV s p, .slice A n c] w fun e w' => e = .returned (.tuple #[.int .i64 (s.fault k).1, .int .u8 (s.fault k).2]) ∧ Below w.heap.size w w' := by
  have hb0 := ext_alloc w (.cells (shC s p).toArray 26)
  have hS := Blk.new w 26 (shC s p)
  have h0 := h.ext hb0
  have hd0 := hd.ext hb0
  have Hn := Lib.hid hn
  have HC := Lib.hid (fun i hi W h hd => RWhy_any s p A n c k i W h hok hkn hn hm hi hd)
  have H0 := Lib.hid (fun h => Sh.fault_none (s := s) (k := k) h)
  have H1 := Lib.hid (fun i hi h h2 => Sh.fault_some (s := s) (k := k) (i := i) hi h h2)
  generalize s.fault k = ft at *
  clear h hd hn hok hkn
  unfold shV at *
  unfold shC at *
  go_enter Tryz.func28, Tryz.ntmps28
  go_upto_region 1 with fail
  change Blk (w.alloc (.cells #[.slice p.A s.acts.length p.cA, .slice p.R s.rest.length p.cR, .slice p.I s.ins.length p.cI, .slice p.O s.outs.length p.cO, .int .i64 s.cover, .int .i64 s.dull, .slice p.B s.before.length p.cB] 26)) _ _ _ at hS
  generalize w.alloc (.cells #[.slice p.A s.acts.length p.cA, .slice p.R s.rest.length p.cR, .slice p.I s.ins.length p.cI, .slice p.O s.outs.length p.cO, .int .i64 s.cover, .int .i64 s.dull, .slice p.B s.before.length p.cB] 26) = W0 at *
  go_wp2
  go_loopw [6] (fun t wr => ∃ i : Nat, t = .int .i64 i ∧ i ≤ n ∧ Hid (∀ j, j < i → s.whyAt k j = 0) ∧ Below W0.heap.size W0 wr) (fun t _ => n - (intOf t).toNat)
  case atStart => exact ⟨0, rfl, by omega, Lib.hid (by intro j hj; omega), Below.refl _ _⟩
  case round =>
    obtain ⟨i, rfl, hi, Hno, hbr⟩ := hrel
    have hSr := hS.ext hbr
    have hmr := h0.ext hbr
    have hdr := hd0.ext hbr
    by_cases hlt : i < n
    · have hlt' : (i : Int) < (n : Int) := by omega
      have C := Lib.hid (HC.out i hlt wr hmr hdr)
      have HN := Lib.hid (show s.whyAt k i = 0 → ∀ j, j < i + 1 → s.whyAt k j = 0 from fun hx j hj => by
        rcases Nat.lt_or_ge j i with h1 | h1
        · exact Hno.out j h1
        · obtain rfl : j = i := by omega
          exact hx)
      have HS := Lib.hid (H1.out i (by have := Hn.out; omega) Hno.out)
      generalize s.whyAt k i = y at *
      clear hmr hdr
      have x0 : wr.cell? ⟨w.heap.size, 0, none⟩ = _ := hSr.cell (i := 0) rfl
      have x1 : wr.cell? ⟨w.heap.size, 1, none⟩ = _ := hSr.cell (i := 1) rfl
      have x2 : wr.cell? ⟨w.heap.size, 2, none⟩ = _ := hSr.cell (i := 2) rfl
      have x3 : wr.cell? ⟨w.heap.size, 3, none⟩ = _ := hSr.cell (i := 3) rfl
      have x4 : wr.cell? ⟨w.heap.size, 4, none⟩ = _ := hSr.cell (i := 4) rfl
      have x5 : wr.cell? ⟨w.heap.size, 5, none⟩ = _ := hSr.cell (i := 5) rfl
      have x6 : wr.cell? ⟨w.heap.size, 6, none⟩ = _ := hSr.cell (i := 6) rfl
      go_wp2_with fail
      refine C.out.mono ?_; rintro e w1 ⟨rfl, hb1⟩
      have hbe := hbr.trans (hb1.mono hbr.size)
      clear x0 x1 x2 x3 x4 x5 x6 C
      by_cases hy : y = 0
      · have HN2 := Lib.hid (HN.out hy)
        subst hy
        go_wp2
        go_roundw
        case rel => exact ⟨i + 1, by go_num, by omega, HN2, hbe⟩
        case measure => simp [intOf]; omega
      · have HF := Lib.hid (HS.out hy)
        have hy2 : ((y : Int) != 0) = true := by simp [hy]
        have Hy := Lib.hid hy
        clear hy
        go_wp2
        refine bodyPost_ret (v := .tuple #[.int .i64 i, .int .u8 y]) (by simp [results, Tryz.results28, go_sem]) rfl ?_
        exact ⟨by rw [HF.out], hb0.trans (hbe.mono hb0.size)⟩
    · obtain rfl : i = n := by omega
      have HF := Lib.hid (H0.out (fun j hj => Hno.out j (by rw [← Hn.out]; exact hj)))
      go_wp2
      refine bodyPost_ret (v := .tuple #[.int .i64 0, .int .u8 0]) (by simp [results, Tryz.results28, go_sem]) rfl ?_
      exact ⟨by rw [HF.out]; rfl, hb0.trans (hbr.mono hb0.size)⟩
end Go.Proofs.YtcnidhcdkbfpcaaGreat

/- Walk: the reference's test of a till; CheckTill; a till for the program. -/
import Derived.Test.YtnjdlhhgnamigaaTilV
namespace Go.Pu
open Go.Pl
def Tl.qB (t : Tl) (i : Nat) : Bool := decide (1 ≤ t.vals.getD i 0 ∧ t.vals.getD i 0 ≤ 1000) && (!(decide (0 < i) && decide (t.vals.getD (i - 1) 0 ≤ t.vals.getD i 0)) && decide (0 ≤ t.cnts.getD i 0 ∧ t.cnts.getD i 0 ≤ 50))
theorem Tl.okB_q (t : Tl) : t.okB = (decide (1 ≤ (t.vals.length : Int) ∧ (t.vals.length : Int) ≤ 8) && (decide (t.cnts.length = t.vals.length) && (List.range t.vals.length).all t.qB)) := by
  rw [Bool.eq_iff_iff, Tl.okB_iff, Bool.and_eq_true, Bool.and_eq_true, decide_eq_true_eq, decide_eq_true_eq, List.all_eq_true]
  constructor
  · intro h
    refine ⟨by have := h.len; omega, h.eq, fun i hi => ?_⟩
    have hi' : i < t.vals.length := by simpa using hi
    have hi2 : i < t.cnts.length := by rw [h.eq]; exact hi'
    unfold Tl.qB
    rw [Bool.and_eq_true, Bool.and_eq_true, decide_eq_true_eq, decide_eq_true_eq]
    refine ⟨by simpa [hi'] using h.rng i hi', ?_, by simpa [hi2] using h.cnt _ (List.getElem_mem hi2)⟩
    by_cases h0 : 0 < i
    · obtain ⟨j, rfl⟩ : ∃ j, i = j + 1 := ⟨i - 1, by omega⟩
      have := h.fal j hi'
      simp [hi', show j < t.vals.length by omega]
      omega
    · simp [h0]
  · rintro ⟨h1, h2, h3⟩
    have hq : ∀ i (hi : i < t.vals.length), (1 ≤ t.vals[i] ∧ t.vals[i] ≤ 1000) ∧ (0 < i → t.vals[i] < t.vals.getD (i - 1) 0) ∧ (0 ≤ t.cnts.getD i 0 ∧ t.cnts.getD i 0 ≤ 50) := fun i hi => by
      have := h3 i (by simpa using hi)
      unfold Tl.qB at this
      rw [Bool.and_eq_true, Bool.and_eq_true, decide_eq_true_eq, decide_eq_true_eq] at this
      obtain ⟨a, b, c⟩ := this
      refine ⟨by simpa [hi] using a, fun h0 => ?_, c⟩
      simp [h0, hi] at b
      simpa using b
    refine ⟨by omega, h2, fun i hi => (hq i hi).1, fun i hi => ?_, fun c hc => ?_⟩
    · have := (hq (i + 1) hi).2.1 (by omega)
      simpa [show i < t.vals.length by omega] using this
    · obtain ⟨i, hi, rfl⟩ := List.getElem_of_mem hc
      have := (hq i (by omega)).2.2
      simpa [hi] using this
end Go.Pu
namespace Go.Proofs.Ytnjdlhhgnamigaa
open Go.RowKit Go.Bs Go.Pu Go.Pl Go.Sort

set_option maxHeartbeats 2000000 in
theorem RightT_any (t : Tl) (A B : Option Addr) (n c m d : Nat) (w : World) (hn : t.vals.length = n) (hm : t.cnts.length = m) (h1 : n ≤ 1000000) (h2 : m ≤ 1000000) (hA : Cells w A 1 encI t.vals) (hB : Cells w B 1 encI t.cnts) :
    Calls Try.prog 33 #[tlV A n c B m d] w fun e w' => e = .returned (.bool t.okB) ∧ Below w.heap.size w w' := by
  unfold tlV
  rw [Tl.okB_q, hn, hm]
  have hb0 := ext_alloc w (.cells #[.slice A n c, .slice B m d] 62)
  have hX := Blk.new w 62 [.slice A n c, .slice B m d]
  have C1 := Lib.hid (fun W => In_any n 1 8 W)
  generalize decide (1 ≤ (n : Int) ∧ (n : Int) ≤ 8) = b1 at *
  generalize hb2 : decide (m = n) = b2
  have Hb2 := Lib.hid hb2
  clear hb2
  generalize hb3 : (List.range n).all t.qB = b3
  have Hb3 := Lib.hid hb3
  clear hb3
  have hs0 : (w.alloc (.cells #[.slice A n c, .slice B m d] 62)).heap.size = w.heap.size + 1 := by simp
  have hA1 := hA.ext hb0
  have hB1 := hB.ext hb0
  clear hA hB
  have Hn := Lib.hid hn
  have Hm := Lib.hid hm
  clear hn hm
  go_enter Try.func33, Try.ntmps33
  go_upto_region 1 with fail
  change Blk (w.alloc (.cells #[.slice A n c, .slice B m d] 62)) _ _ _ at hX
  generalize w.alloc (.cells #[.slice A n c, .slice B m d] 62) = W0 at *
  have x0 : W0.cell? ⟨w.heap.size, 0, none⟩ = _ := hX.cell rfl
  have x1 : W0.cell? ⟨w.heap.size, 1, none⟩ = _ := hX.cell rfl
  go_wp2_with fail
  refine (C1.out _).mono ?_; rintro e w1 ⟨rfl, rfl⟩
  cases b1
  · go_wp2
    go_ret
    exact ⟨rfl, hb0⟩
  cases b2
  · have hz : ((m : Int) == (n : Int)) = false := by have := of_decide_eq_false Hb2.out; simp; omega
    go_wp2
    go_ret
    exact ⟨rfl, hb0⟩
  have hmn := of_decide_eq_true Hb2.out
  subst hmn
  clear Hb2 C1
  go_wp2
  go_loopw [3] (fun x wr => ∃ k : Nat, x = .int .i64 k ∧ k ≤ m ∧ Hid (∀ i, i < k → t.qB i = true) ∧ Below W0.heap.size W0 wr) (fun x _ => m - (intOf x).toNat)
  case atStart => exact ⟨0, rfl, by omega, Lib.hid (fun i hi => by omega), Below.refl _ _⟩
  case round =>
    obtain ⟨k, rfl, hk, Hk, hb⟩ := hrel
    have hXr := hX.ext hb
    have y0 : wr.cell? ⟨w.heap.size, 0, none⟩ = _ := hXr.cell rfl
    have y1 : wr.cell? ⟨w.heap.size, 1, none⟩ = _ := hXr.cell rfl
    by_cases hlt : k < m
    · have hlt' : (k : Int) < (m : Int) := by omega
      have hkv : k < t.vals.length := by rw [Hn.out]; exact hlt
      have hkc : k < t.cnts.length := by rw [Hm.out]; exact hlt
      go_upto_region 6 with fail
      refine Dr.wp_region_plan 34 [] (.q [0, 1, 2, 3, 4] (.e1 5 (.q [6, 7, 8, 9, 10, 11, 12, 13, 14, 15, 16, 17, 18, 19, 20, 21, 22, 23, 24, 25, 26, 27, 28, 29, 30] (.e1 31 (.q [32, 33] .done))))) (by kernel_rfl) (by kernel_rfl) ?_
      have hb2 := ext_trans hb (ext_drew wr)
      clear hXr y0 y1 hb x0 x1
      generalize wr.drew = W at *
      have hXr := hX.ext hb2
      have q0 := Dr.cell0 (hXr.cell (i := 0) rfl)
      have q1 := Dr.cell0 (hXr.cell (i := 1) rfl)
      obtain ⟨b, off, rfl, -, c0⟩ := (hA1.ext hb2).at1 hkv rfl
      obtain ⟨b', off', rfl, -, d0⟩ := (hB1.ext hb2).at1 hkc rfl
      have q2 := Dr.cell0 c0
      have q3 := Dr.cell0 d0
      have Hq := Lib.hid (show t.qB k = (decide (1 ≤ t.vals[k] ∧ t.vals[k] ≤ 1000) && (!(decide (0 < k) && decide (t.vals.getD (k - 1) 0 ≤ t.vals[k])) && decide (0 ≤ t.cnts[k] ∧ t.cnts[k] ≤ 50))) by unfold Tl.qB; simp [hkv, hkc])
      have Hno := Lib.hid (fun (h : t.qB k = false) => show b3 = false by
        rw [← Hb3.out, List.all_eq_false]
        exact ⟨k, by simpa using hlt, by rw [h]; simp⟩)
      have Hyes := Lib.hid (fun (h : t.qB k = true) => show ∀ i, i < k + 1 → t.qB i = true from fun i hi => by
        rcases Nat.lt_or_ge i k with h3 | h3
        · exact Hk.out i h3
        · obtain rfl : i = k := by omega
          exact h)
      have CA := Lib.hid (fun W => In_any t.vals[k] 1 1000 W)
      have CB := Lib.hid (fun W => In_any t.cnts[k] 0 50 W)
      generalize hv : t.vals[k] = v at *
      generalize hcv : t.cnts[k] = cv at *
      generalize decide (1 ≤ v ∧ v ≤ 1000) = p1 at *
      generalize decide (0 ≤ cv ∧ cv ≤ 50) = p3 at *
      refine Dr.plan_q (l := [_, _, _, _, _]) rfl (fun K hK => ?_)
      iterate 5 (go_big_quiet_step (fail))
      refine wpQuiet_nil (hK _ ?_); clear hK K
      refine Dr.plan_e rfl (by rfl) (fun K hK => ?_)
      go_wp2_with fail
      refine (CA.out _).mono ?_; rintro e w1 ⟨rfl, rfl⟩
      refine hK _ _ (.refl _ _) ?_; clear hK K
      cases p1
      · have hf : b3 = false := Hno.out (by rw [Hq.out]; rfl)
        refine Dr.plan_q (l := [_, _, _, _, _, _, _, _, _, _, _, _, _, _, _, _, _, _, _, _, _, _, _, _, _]) rfl (fun K hK => ?_)
        iterate 25 (go_big_quiet_step (fail))
        refine wpQuiet_nil (hK _ ?_); clear hK K
        refine Dr.plan_e_skip rfl (by rfl) ?_
        go_frame
        refine Dr.plan_q (l := [_, _]) rfl (fun K hK => ?_)
        iterate 2 (go_big_quiet_step (fail))
        refine wpQuiet_nil (hK _ ?_); clear hK K
        refine Dr.plan_end rfl ?_
        go_wp2
        go_ret
        subst hf
        exact ⟨rfl, hb0.trans (hb2.mono (by omega))⟩
      · have CBr := CB
        clear CB CA
        rcases Nat.eq_zero_or_pos k with h0 | h0
        · have g1 : ¬ (0 : Int) < (k : Int) := by omega
          have g2 : ¬ 0 < k := by omega
          have hq3 : t.qB k = p3 := by rw [Hq.out]; simp [g2]
          have Hq3 := Lib.hid hq3
          clear h0 hq3
          refine Dr.plan_q (l := [_, _, _, _, _, _, _, _, _, _, _, _, _, _, _, _, _, _, _, _, _, _, _, _, _]) rfl (fun K hK => ?_)
          iterate 25 (go_big_quiet_step (fail))
          refine wpQuiet_nil (hK _ ?_); clear hK K
          refine Dr.plan_e rfl (by rfl) (fun K hK => ?_)
          go_wp2_with fail
          refine (CBr.out _).mono ?_; rintro e w1 ⟨rfl, rfl⟩
          refine hK _ _ (.refl _ _) ?_; clear hK K
          refine Dr.plan_q (l := [_, _]) rfl (fun K hK => ?_)
          iterate 2 (go_big_quiet_step (fail))
          refine wpQuiet_nil (hK _ ?_); clear hK K
          refine Dr.plan_end rfl ?_
          cases p3
          · have hf : b3 = false := Hno.out Hq3.out
            go_wp2
            go_ret
            subst hf
            exact ⟨rfl, hb0.trans (hb2.mono (by omega))⟩
          · go_wp2
            go_roundw
            case rel => exact ⟨k + 1, by go_num, by omega, Lib.hid (Hyes.out Hq3.out), hb2⟩
            case measure => simp [intOf]; omega
        · obtain ⟨j, rfl⟩ : ∃ j, k = j + 1 := ⟨k - 1, by omega⟩
          have g1 : (0 : Int) < ((j + 1 : Nat) : Int) := by omega
          have hj : j < t.vals.length := by omega
          obtain ⟨b3', off3, e3, -, d3⟩ := (hA1.ext hb2).at1 hj rfl
          cases e3
          have q4 := Dr.cell0 d3
          have hpv : t.vals.getD (j + 1 - 1) 0 = t.vals[j] := by simp [hj]
          rw [hpv] at Hq
          generalize t.vals[j] = pv at *
          have hqf : t.qB (j + 1) = (!(decide (pv ≤ v)) && p3) := by rw [Hq.out]; simp
          have Hqf := Lib.hid hqf
          clear hqf hpv h0
          by_cases hle : pv ≤ v
          · have hf : b3 = false := Hno.out (by rw [Hqf.out]; simp [hle])
            refine Dr.plan_q (l := [_, _, _, _, _, _, _, _, _, _, _, _, _, _, _, _, _, _, _, _, _, _, _, _, _]) rfl (fun K hK => ?_)
            iterate 25 (go_big_quiet_step (fail))
            refine wpQuiet_nil (hK _ ?_); clear hK K
            refine Dr.plan_e_skip rfl (by rfl) ?_
            go_frame
            refine Dr.plan_q (l := [_, _]) rfl (fun K hK => ?_)
            iterate 2 (go_big_quiet_step (fail))
            refine wpQuiet_nil (hK _ ?_); clear hK K
            refine Dr.plan_end rfl ?_
            go_wp2
            go_ret
            subst hf
            exact ⟨rfl, hb0.trans (hb2.mono (by omega))⟩
          · have Hq3 := Lib.hid (show t.qB (j + 1) = p3 by rw [Hqf.out]; simp [hle])
            refine Dr.plan_q (l := [_, _, _, _, _, _, _, _, _, _, _, _, _, _, _, _, _, _, _, _, _, _, _, _, _]) rfl (fun K hK => ?_)
            iterate 25 (go_big_quiet_step (fail))
            refine wpQuiet_nil (hK _ ?_); clear hK K
            refine Dr.plan_e rfl (by rfl) (fun K hK => ?_)
            go_wp2_with fail
            refine (CBr.out _).mono ?_; rintro e w1 ⟨rfl, rfl⟩
            refine hK _ _ (.refl _ _) ?_; clear hK K
            refine Dr.plan_q (l := [_, _]) rfl (fun K hK => ?_)
            iterate 2 (go_big_quiet_step (fail))
            refine wpQuiet_nil (hK _ ?_); clear hK K
            refine Dr.plan_end rfl ?_
            cases p3
            · have hf : b3 = false := Hno.out Hq3.out
              go_wp2
              go_ret
              subst hf
              exact ⟨rfl, hb0.trans (hb2.mono (by omega))⟩
            · go_wp2
              go_roundw
              case rel => exact ⟨j + 2, by go_num, by omega, Lib.hid (Hyes.out Hq3.out), hb2⟩
              case measure => simp [intOf]; omega
    · have hf : b3 = true := by
        rw [← Hb3.out, List.all_eq_true]
        exact fun i hi => Hk.out i (by have := List.mem_range.1 hi; omega)
      go_wp2
      go_ret
      subst hf
      exact ⟨rfl, hb0.trans (hb.mono (by omega))⟩

theorem CheckTill_any (t : Tl) (A B : Option Addr) (n c m d : Nat) (w : World) (hn : t.vals.length = n) (hm : t.cnts.length = m) (h1 : n ≤ 1000000) (h2 : m ≤ 1000000) (hA : Cells w A 1 encI t.vals) (hB : Cells w B 1 encI t.cnts) :
    Calls Try.prog 34 #[tlV A n c B m d] w fun e w' => e = .returned (.int .i64 (if t.okB then 0 else 1)) ∧ Below w.heap.size w w' := by
  have hb0 := ext_alloc w (.cells #[.slice A n c, .slice B m d] 66)
  have hV := Lib.hid (tvalid_any t A B n c m d _ hn hm h1 h2 (hA.ext hb0) (hB.ext hb0))
  unfold tlV at *
  generalize t.okB = b at *
  clear hA hB hn hm
  go_enter Try.func34, Try.ntmps34
  go_wp2_with fail
  refine hV.out.mono ?_; rintro e w1 ⟨rfl, hb1⟩
  cases b
  · go_wp2
    go_ret
    exact ⟨rfl, ext_trans hb0 hb1⟩
  · go_wp2
    go_ret
    exact ⟨rfl, ext_trans hb0 hb1⟩

set_option maxHeartbeats 1000000 in
theorem Till_any (t : Tl) (A B : Option Addr) (n c m d : Nat) (w : World) (hn : t.vals.length = n) (hm : t.cnts.length = m) (h1 : n ≤ 1000000) (h2 : m ≤ 1000000) (hA : Cells w A 1 encI t.vals) (hB : Cells w B 1 encI t.cnts) :
    Calls Try.prog 32 #[tlV A n c B m d] w fun e w' => ∃ v u, e = .returned (.agg #[v, u]) ∧ FreshL w w' 1 encI v t.vals ∧ FreshL w w' 1 encI u t.cnts ∧ Below w.heap.size w w' := by
  unfold tlV
  have hb0 := (ext_alloc w (.cells #[.slice A n c, .slice B m d] 62)).trans ((ext_alloc _ (.cells #[.slice none 0 0, .slice none 0 0] 66)).mono (by simp))
  have hX := (Blk.new w 62 [.slice A n c, .slice B m d]).alloc (.cells #[.slice none 0 0, .slice none 0 0] 66)
  have hY := Blk.new (w.alloc (.cells #[.slice A n c, .slice B m d] 62)) 66 [.slice none 0 0, .slice none 0 0]
  have hsz : ((w.alloc (.cells #[.slice A n c, .slice B m d] 62)).alloc (.cells #[.slice none 0 0, .slice none 0 0] 66)).heap.size = w.heap.size + 2 := by simp
  rw [World.size_alloc] at hY
  have CA := Lib.hid (fun W hW => list_any A n c t.vals W hn (by omega) (hA.ext hW))
  have CB := Lib.hid (fun W hW => list_any B m d t.cnts W hm (by omega) (hB.ext hW))
  clear hA hB hn hm
  go_enter Try.func32, Try.ntmps32
  go_upto_region 1 with fail
  generalize (w.alloc (.cells #[.slice A n c, .slice B m d] 62)).alloc (.cells #[.slice none 0 0, .slice none 0 0] 66) = W1 at *
  refine Dr.wp_region_plan 7 [] (.q [0, 1, 3, 4] (.e1 2 (.e1 5 (.q [6] .done)))) (by kernel_rfl) (by kernel_rfl) ?_
  have hb1 := hb0.trans ((ext_drew W1).mono (by omega))
  have hX1 := hX.drew
  have hY1 := hY.drew
  have hs1 : W1.drew.heap.size = w.heap.size + 2 := hsz
  clear hX hY hb0 hsz
  generalize W1.drew = W at *
  have q0 := Dr.cell0 (hX1.cell (i := 0) rfl)
  have q1 := Dr.cell0 (hX1.cell (i := 1) rfl)
  refine Dr.plan_q (l := [_, _, _, _]) rfl (fun K hK => ?_)
  iterate 4 (go_big_quiet_step (fail))
  refine wpQuiet_nil (hK _ ?_); clear hK K
  clear q0 q1 hX1
  refine Dr.plan_e rfl (by rfl) (fun K hK => ?_)
  go_wp2_with fail
  refine (CA.out _ hb1).mono ?_; rintro e w1 ⟨v, rfl, hv, hb2⟩
  refine hK _ _ (.of hb2) ?_; clear hK K
  have hb3 := ext_trans hb1 hb2
  refine Dr.plan_e rfl (by rfl) (fun K hK => ?_)
  go_wp2_with fail
  refine (CB.out _ hb3).mono ?_; rintro e w2 ⟨u, rfl, hu, hb4⟩
  refine hK _ _ (.of hb4) ?_; clear hK K
  have hY2 := (hY1.ext hb2).ext hb4
  have hb5 := ext_trans hb3 hb4
  have hv2 := (hv.ext hb4).older (w0 := w) (by omega)
  have hu2 := hu.older (w0 := w) (by have := hb2.size; omega)
  have hv9 := (hv.ext hb4).older (w0 := W) (by omega)
  have hu9 := hu.older (w0 := W) (by have := hb2.size; omega)
  have hsz2 := hb2.size
  have hsz4 := hb4.size
  clear CA CB hY1 hb1 hb2 hb3 hb4 hv hu
  obtain ⟨A1, p1, rfl, ha1, ha2, ha3, ha4⟩ := hv9
  obtain ⟨B1, p2, rfl, hc1, hc2, hc3, hc4⟩ := hu9
  refine Dr.plan_q (l := [_]) rfl (fun K hK => ?_)
  iterate 1 (go_big_quiet_step (fail))
  refine wpQuiet_nil (hK _ ?_); clear hK K
  have f0 := hY2.free 0
  have f1 := hY2.free 1
  have y0 : w2.cell? ⟨w.heap.size + 1, 0, none⟩ = _ := hY2.cell rfl
  have y1 : w2.cell? ⟨w.heap.size + 1, 1, none⟩ = _ := hY2.cell rfl
  refine Dr.plan_done (tl := [_]) rfl ?_
  go_wp2
  have hYf := (hY2.set 0 (.slice A1 t.vals.length p1)).set 1 (.slice B1 t.cnts.length p2)
  have hbf : Dr.Bel [w.heap.size + 1] w2 _ := (((Dr.Bel.refl _ w2).put (p := ⟨w.heap.size + 1, 0, none⟩) (by simp) (.slice A1 t.vals.length p1)).put (p := ⟨w.heap.size + 1, 1, none⟩) (by simp) (.slice B1 t.cnts.length p2))
  generalize (w2.setCell ⟨w.heap.size + 1, 0, none⟩ (.slice A1 t.vals.length p1)).setCell ⟨w.heap.size + 1, 1, none⟩ (.slice B1 t.cnts.length p2) = Wf at *
  have g0 : Wf.cell? ⟨w.heap.size + 1, 0, none⟩ = _ := hYf.cell rfl
  have g1 : Wf.cell? ⟨w.heap.size + 1, 1, none⟩ = _ := hYf.cell rfl
  refine bodyPost_ret (v := .agg #[.slice A1 t.vals.length p1, .slice B1 t.cnts.length p2]) (by simp [results, Try.results32, go_sem, g0, g1]) rfl ?_
  have hzf := hbf.size
  exact ⟨_, _, rfl, ⟨A1, p1, rfl, ha1, ha2, cells_bel ha3 hbf (fun k hk => by have := (ha4 k hk).1; simp; omega), fun k hk => by have := ha4 k hk; omega⟩, ⟨B1, p2, rfl, hc1, hc2, cells_bel hc3 hbf (fun k hk => by have := (hc4 k hk).1; simp; omega), fun k hk => by have := hc4 k hk; omega⟩, hb5.trans (hbf.old (by omega) (by simp))⟩
end Go.Proofs.Ytnjdlhhgnamigaa

/- The law of the fewest pieces: Change gives the amount with the fewest; below the gap all can be given; a piece more, no lesser gap. -/
import Derived.Test.YtnjdlhhgnamigaaChgA
import Derived.Test.YtnjdlhhgnamigaaTilX
namespace Go.Proofs.Ytnjdlhhgnamigaa
open Go.RowKit Go.Bs Go.Pu Go.Pl Go.Sort
section
variable {α : Type} {a b : World} {base : Nat} {e : TypeId} {sz : Nat} {enc : α → List Value} {v : Value} {l : List α}
theorem own_low2 (h : OwnL a base e sz enc v l) {m : Nat} (hm : m ≤ base) : OwnL a m e sz enc v l := by
  obtain ⟨h1, h2⟩ := h
  refine ⟨h1, ?_⟩
  rcases h2 with h2 | ⟨g, cap, cur, hv, hbs, h3⟩
  · exact .inl h2
  · exact .inr ⟨g, cap, cur, hv, Nat.le_trans hm hbs, h3⟩
theorem own_bel2 {M : List Nat} (h : OwnL a base e sz enc v l) (hb : Dr.Bel M a b) (hM : ∀ k ∈ M, k < base) : OwnL b base e sz enc v l := by
  obtain ⟨h1, h2⟩ := h
  refine ⟨h1, ?_⟩
  rcases h2 with h2 | ⟨g, cap, cur, hv, hbs, hg, h3⟩
  · exact .inl h2
  · refine .inr ⟨g, cap, cur, hv, hbs, ?_, h3⟩
    have hl : g < a.heap.size := (Array.getElem?_eq_some_iff.1 hg).1
    rw [hb.block g hl (fun hm => by have := hM g hm; omega)]
    exact hg
end
theorem RightT_big (t : Tl) (A B : Option Addr) (n c m d : Nat) (w : World) (hn : t.vals.length = n) (hm : t.cnts.length = m) (h1 : n ≤ 9223372036854775807) (h2 : m ≤ 9223372036854775807) (hA : Cells w A 1 encI t.vals) (hB : Cells w B 1 encI t.cnts) :
    Calls Try.prog 33 #[tlV A n c B m d] w fun e w' => e = .returned (.bool t.okB) ∧ Below w.heap.size w w' := by
  unfold tlV
  rw [Tl.okB_q, hn, hm]
  have hb0 := ext_alloc w (.cells #[.slice A n c, .slice B m d] 62)
  have hX := Blk.new w 62 [.slice A n c, .slice B m d]
  have C1 := Lib.hid (fun W => In_any n 1 8 W)
  generalize decide (1 ≤ (n : Int) ∧ (n : Int) ≤ 8) = b1 at *
  generalize hb2 : decide (m = n) = b2
  have Hb2 := Lib.hid hb2
  clear hb2
  generalize hb3 : (List.range n).all t.qB = b3
  have Hb3 := Lib.hid hb3
  clear hb3
  have hs0 : (w.alloc (.cells #[.slice A n c, .slice B m d] 62)).heap.size = w.heap.size + 1 := by simp
  have hA1 := hA.ext hb0
  have hB1 := hB.ext hb0
  clear hA hB
  have Hn := Lib.hid hn
  have Hm := Lib.hid hm
  clear hn hm
  go_enter Try.func33, Try.ntmps33
  go_upto_region 1 with fail
  change Blk (w.alloc (.cells #[.slice A n c, .slice B m d] 62)) _ _ _ at hX
  generalize w.alloc (.cells #[.slice A n c, .slice B m d] 62) = W0 at *
  have x0 : W0.cell? ⟨w.heap.size, 0, none⟩ = _ := hX.cell rfl
  have x1 : W0.cell? ⟨w.heap.size, 1, none⟩ = _ := hX.cell rfl
  go_wp2_with fail
  refine (C1.out _).mono ?_; rintro e w1 ⟨rfl, rfl⟩
  cases b1
  · go_wp2
    go_ret
    exact ⟨rfl, hb0⟩
  cases b2
  · have hz : ((m : Int) == (n : Int)) = false := by have := of_decide_eq_false Hb2.out; simp; omega
    go_wp2
    go_ret
    exact ⟨rfl, hb0⟩
  have hmn := of_decide_eq_true Hb2.out
  subst hmn
  clear Hb2 C1
  go_wp2
  go_loopw [3] (fun x wr => ∃ k : Nat, x = .int .i64 k ∧ k ≤ m ∧ Hid (∀ i, i < k → t.qB i = true) ∧ Below W0.heap.size W0 wr) (fun x _ => m - (intOf x).toNat)
  case atStart => exact ⟨0, rfl, by omega, Lib.hid (fun i hi => by omega), Below.refl _ _⟩
  case round =>
    obtain ⟨k, rfl, hk, Hk, hb⟩ := hrel
    have hXr := hX.ext hb
    have y0 : wr.cell? ⟨w.heap.size, 0, none⟩ = _ := hXr.cell rfl
    have y1 : wr.cell? ⟨w.heap.size, 1, none⟩ = _ := hXr.cell rfl
    by_cases hlt : k < m
    · have hlt' : (k : Int) < (m : Int) := by omega
      have hkv : k < t.vals.length := by rw [Hn.out]; exact hlt
      have hkc : k < t.cnts.length := by rw [Hm.out]; exact hlt
      go_upto_region 6 with fail
      refine Dr.wp_region_plan 34 [] (.q [0, 1, 2, 3, 4] (.e1 5 (.q [6, 7, 8, 9, 10, 11, 12, 13, 14, 15, 16, 17, 18, 19, 20, 21, 22, 23, 24, 25, 26, 27, 28, 29, 30] (.e1 31 (.q [32, 33] .done))))) (by kernel_rfl) (by kernel_rfl) ?_
      have hb2 := ext_trans hb (ext_drew wr)
      clear hXr y0 y1 hb x0 x1
      generalize wr.drew = W at *
      have hXr := hX.ext hb2
      have q0 := Dr.cell0 (hXr.cell (i := 0) rfl)
      have q1 := Dr.cell0 (hXr.cell (i := 1) rfl)
      obtain ⟨b, off, rfl, -, c0⟩ := (hA1.ext hb2).at1 hkv rfl
      obtain ⟨b', off', rfl, -, d0⟩ := (hB1.ext hb2).at1 hkc rfl
      have q2 := Dr.cell0 c0
      have q3 := Dr.cell0 d0
      have Hq := Lib.hid (show t.qB k = (decide (1 ≤ t.vals[k] ∧ t.vals[k] ≤ 1000) && (!(decide (0 < k) && decide (t.vals.getD (k - 1) 0 ≤ t.vals[k])) && decide (0 ≤ t.cnts[k] ∧ t.cnts[k] ≤ 50))) by unfold Tl.qB; simp [hkv, hkc])
      have Hno := Lib.hid (fun (h : t.qB k = false) => show b3 = false by
        rw [← Hb3.out, List.all_eq_false]
        exact ⟨k, by simpa using hlt, by rw [h]; simp⟩)
      have Hyes := Lib.hid (fun (h : t.qB k = true) => show ∀ i, i < k + 1 → t.qB i = true from fun i hi => by
        rcases Nat.lt_or_ge i k with h3 | h3
        · exact Hk.out i h3
        · obtain rfl : i = k := by omega
          exact h)
      have CA := Lib.hid (fun W => In_any t.vals[k] 1 1000 W)
      have CB := Lib.hid (fun W => In_any t.cnts[k] 0 50 W)
      generalize hv : t.vals[k] = v at *
      generalize hcv : t.cnts[k] = cv at *
      generalize decide (1 ≤ v ∧ v ≤ 1000) = p1 at *
      generalize decide (0 ≤ cv ∧ cv ≤ 50) = p3 at *
      refine Dr.plan_q (l := [_, _, _, _, _]) rfl (fun K hK => ?_)
      iterate 5 (go_big_quiet_step (fail))
      refine wpQuiet_nil (hK _ ?_); clear hK K
      refine Dr.plan_e rfl (by rfl) (fun K hK => ?_)
      go_wp2_with fail
      refine (CA.out _).mono ?_; rintro e w1 ⟨rfl, rfl⟩
      refine hK _ _ (.refl _ _) ?_; clear hK K
      cases p1
      · have hf : b3 = false := Hno.out (by rw [Hq.out]; rfl)
        refine Dr.plan_q (l := [_, _, _, _, _, _, _, _, _, _, _, _, _, _, _, _, _, _, _, _, _, _, _, _, _]) rfl (fun K hK => ?_)
        iterate 25 (go_big_quiet_step (fail))
        refine wpQuiet_nil (hK _ ?_); clear hK K
        refine Dr.plan_e_skip rfl (by rfl) ?_
        go_frame
        refine Dr.plan_q (l := [_, _]) rfl (fun K hK => ?_)
        iterate 2 (go_big_quiet_step (fail))
        refine wpQuiet_nil (hK _ ?_); clear hK K
        refine Dr.plan_end rfl ?_
        go_wp2
        go_ret
        subst hf
        exact ⟨rfl, hb0.trans (hb2.mono (by omega))⟩
      · have CBr := CB
        clear CB CA
        rcases Nat.eq_zero_or_pos k with h0 | h0
        · have g1 : ¬ (0 : Int) < (k : Int) := by omega
          have g2 : ¬ 0 < k := by omega
          have hq3 : t.qB k = p3 := by rw [Hq.out]; simp [g2]
          have Hq3 := Lib.hid hq3
          clear h0 hq3
          refine Dr.plan_q (l := [_, _, _, _, _, _, _, _, _, _, _, _, _, _, _, _, _, _, _, _, _, _, _, _, _]) rfl (fun K hK => ?_)
          iterate 25 (go_big_quiet_step (fail))
          refine wpQuiet_nil (hK _ ?_); clear hK K
          refine Dr.plan_e rfl (by rfl) (fun K hK => ?_)
          go_wp2_with fail
          refine (CBr.out _).mono ?_; rintro e w1 ⟨rfl, rfl⟩
          refine hK _ _ (.refl _ _) ?_; clear hK K
          refine Dr.plan_q (l := [_, _]) rfl (fun K hK => ?_)
          iterate 2 (go_big_quiet_step (fail))
          refine wpQuiet_nil (hK _ ?_); clear hK K
          refine Dr.plan_end rfl ?_
          cases p3
          · have hf : b3 = false := Hno.out Hq3.out
            go_wp2
            go_ret
            subst hf
            exact ⟨rfl, hb0.trans (hb2.mono (by omega))⟩
          · go_wp2
            go_roundw
            case rel => exact ⟨k + 1, by go_num, by omega, Lib.hid (Hyes.out Hq3.out), hb2⟩
            case measure => simp [intOf]; omega
        · obtain ⟨j, rfl⟩ : ∃ j, k = j + 1 := ⟨k - 1, by omega⟩
          have g1 : (0 : Int) < ((j + 1 : Nat) : Int) := by omega
          have hj : j < t.vals.length := by omega
          obtain ⟨b3', off3, e3, -, d3⟩ := (hA1.ext hb2).at1 hj rfl
          cases e3
          have q4 := Dr.cell0 d3
          have hpv : t.vals.getD (j + 1 - 1) 0 = t.vals[j] := by simp [hj]
          rw [hpv] at Hq
          generalize t.vals[j] = pv at *
          have hqf : t.qB (j + 1) = (!(decide (pv ≤ v)) && p3) := by rw [Hq.out]; simp
          have Hqf := Lib.hid hqf
          clear hqf hpv h0
          by_cases hle : pv ≤ v
          · have hf : b3 = false := Hno.out (by rw [Hqf.out]; simp [hle])
            refine Dr.plan_q (l := [_, _, _, _, _, _, _, _, _, _, _, _, _, _, _, _, _, _, _, _, _, _, _, _, _]) rfl (fun K hK => ?_)
            iterate 25 (go_big_quiet_step (fail))
            refine wpQuiet_nil (hK _ ?_); clear hK K
            refine Dr.plan_e_skip rfl (by rfl) ?_
            go_frame
            refine Dr.plan_q (l := [_, _]) rfl (fun K hK => ?_)
            iterate 2 (go_big_quiet_step (fail))
            refine wpQuiet_nil (hK _ ?_); clear hK K
            refine Dr.plan_end rfl ?_
            go_wp2
            go_ret
            subst hf
            exact ⟨rfl, hb0.trans (hb2.mono (by omega))⟩
          · have Hq3 := Lib.hid (show t.qB (j + 1) = p3 by rw [Hqf.out]; simp [hle])
            refine Dr.plan_q (l := [_, _, _, _, _, _, _, _, _, _, _, _, _, _, _, _, _, _, _, _, _, _, _, _, _]) rfl (fun K hK => ?_)
            iterate 25 (go_big_quiet_step (fail))
            refine wpQuiet_nil (hK _ ?_); clear hK K
            refine Dr.plan_e rfl (by rfl) (fun K hK => ?_)
            go_wp2_with fail
            refine (CBr.out _).mono ?_; rintro e w1 ⟨rfl, rfl⟩
            refine hK _ _ (.refl _ _) ?_; clear hK K
            refine Dr.plan_q (l := [_, _]) rfl (fun K hK => ?_)
            iterate 2 (go_big_quiet_step (fail))
            refine wpQuiet_nil (hK _ ?_); clear hK K
            refine Dr.plan_end rfl ?_
            cases p3
            · have hf : b3 = false := Hno.out Hq3.out
              go_wp2
              go_ret
              subst hf
              exact ⟨rfl, hb0.trans (hb2.mono (by omega))⟩
            · go_wp2
              go_roundw
              case rel => exact ⟨j + 2, by go_num, by omega, Lib.hid (Hyes.out Hq3.out), hb2⟩
              case measure => simp [intOf]; omega
    · have hf : b3 = true := by
        rw [← Hb3.out, List.all_eq_true]
        exact fun i hi => Hk.out i (by have := List.mem_range.1 hi; omega)
      go_wp2
      go_ret
      subst hf
      exact ⟨rfl, hb0.trans (hb.mono (by omega))⟩
set_option maxHeartbeats 1000000 in
theorem Till_own (t : Tl) (A B : Option Addr) (n c m d : Nat) (w : World) (hn : t.vals.length = n) (hm : t.cnts.length = m) (h0 : 1 ≤ m) (h1 : n ≤ 1000000) (h2 : m ≤ 1000000) (hA : Cells w A 1 encI t.vals) (hB : Cells w B 1 encI t.cnts) :
    Calls Try.prog 32 #[tlV A n c B m d] w fun e w' => ∃ A' c' g d', e = .returned (.agg #[.slice A' n c', .slice (some ⟨g, 0, none⟩) m d']) ∧ Cells w' A' 1 encI t.vals ∧ OwnL w' w.heap.size 3 1 encI (.slice (some ⟨g, 0, none⟩) m d') t.cnts ∧ (∀ k, A'.map (·.block) = some k → k < g) ∧ w.heap.size ≤ g ∧ Below w.heap.size w w' := by
  unfold tlV
  have hb0 := (ext_alloc w (.cells #[.slice A n c, .slice B m d] 62)).trans ((ext_alloc _ (.cells #[.slice none 0 0, .slice none 0 0] 66)).mono (by simp))
  have hX := (Blk.new w 62 [.slice A n c, .slice B m d]).alloc (.cells #[.slice none 0 0, .slice none 0 0] 66)
  have hY := Blk.new (w.alloc (.cells #[.slice A n c, .slice B m d] 62)) 66 [.slice none 0 0, .slice none 0 0]
  have hsz : ((w.alloc (.cells #[.slice A n c, .slice B m d] 62)).alloc (.cells #[.slice none 0 0, .slice none 0 0] 66)).heap.size = w.heap.size + 2 := by simp
  rw [World.size_alloc] at hY
  have CA := Lib.hid (fun W hW => list_any A n c t.vals W hn (by omega) (hA.ext hW))
  have CB := Lib.hid (fun W hW => list_own B m d t.cnts W hm (by omega) (hB.ext hW))
  have Hn := Lib.hid hn
  have Hm := Lib.hid hm
  clear hA hB hn hm
  go_enter Try.func32, Try.ntmps32
  go_upto_region 1 with fail
  generalize (w.alloc (.cells #[.slice A n c, .slice B m d] 62)).alloc (.cells #[.slice none 0 0, .slice none 0 0] 66) = W1 at *
  refine Dr.wp_region_plan 7 [] (.q [0, 1, 3, 4] (.e1 2 (.e1 5 (.q [6] .done)))) (by kernel_rfl) (by kernel_rfl) ?_
  have hb1 := hb0.trans ((ext_drew W1).mono (by omega))
  have hX1 := hX.drew
  have hY1 := hY.drew
  have hs1 : W1.drew.heap.size = w.heap.size + 2 := hsz
  clear hX hY hb0 hsz
  generalize W1.drew = W at *
  have q0 := Dr.cell0 (hX1.cell (i := 0) rfl)
  have q1 := Dr.cell0 (hX1.cell (i := 1) rfl)
  refine Dr.plan_q (l := [_, _, _, _]) rfl (fun K hK => ?_)
  iterate 4 (go_big_quiet_step (fail))
  refine wpQuiet_nil (hK _ ?_); clear hK K
  clear q0 q1 hX1
  refine Dr.plan_e rfl (by rfl) (fun K hK => ?_)
  go_wp2_with fail
  refine (CA.out _ hb1).mono ?_; rintro e w1 ⟨v, rfl, hv, hb2⟩
  refine hK _ _ (.of hb2) ?_; clear hK K
  have hb3 := ext_trans hb1 hb2
  refine Dr.plan_e rfl (by rfl) (fun K hK => ?_)
  go_wp2_with fail
  refine (CB.out _ hb3).mono ?_; rintro e w2 ⟨u, rfl, hu, hb4⟩
  refine hK _ _ (.of hb4) ?_; clear hK K
  have hY2 := (hY1.ext hb2).ext hb4
  have hb5 := ext_trans hb3 hb4
  have hsz2 := hb2.size
  have hsz4 := hb4.size
  obtain ⟨A1, p1, rfl, ha1, ha2, ha3, ha4⟩ := hv
  have ha3 := ha3.ext hb4
  obtain ⟨g, p2, rfl, hbs⟩ : ∃ g p2, u = .slice (some ⟨g, 0, none⟩) t.cnts.length p2 ∧ w1.heap.size ≤ g := by
    rcases hu.2 with ⟨e1, e2⟩ | ⟨g, cap, cur, hv, hbs, _⟩
    · rw [Hm.out] at e2; omega
    · exact ⟨g, cap, hv, hbs⟩
  clear CA CB hY1 hb1 hb2 hb3 hb4
  refine Dr.plan_q (l := [_]) rfl (fun K hK => ?_)
  iterate 1 (go_big_quiet_step (fail))
  refine wpQuiet_nil (hK _ ?_); clear hK K
  have f0 := hY2.free 0
  have f1 := hY2.free 1
  have y0 : w2.cell? ⟨w.heap.size + 1, 0, none⟩ = _ := hY2.cell rfl
  have y1 : w2.cell? ⟨w.heap.size + 1, 1, none⟩ = _ := hY2.cell rfl
  refine Dr.plan_done (tl := [_]) rfl ?_
  go_wp2
  have hYf := (hY2.set 0 (.slice A1 t.vals.length p1)).set 1 (.slice (some ⟨g, 0, none⟩) t.cnts.length p2)
  have hbf : Dr.Bel [w.heap.size + 1] w2 _ := (((Dr.Bel.refl _ w2).put (p := ⟨w.heap.size + 1, 0, none⟩) (by simp) (.slice A1 t.vals.length p1)).put (p := ⟨w.heap.size + 1, 1, none⟩) (by simp) (.slice (some ⟨g, 0, none⟩) t.cnts.length p2))
  generalize (w2.setCell ⟨w.heap.size + 1, 0, none⟩ (.slice A1 t.vals.length p1)).setCell ⟨w.heap.size + 1, 1, none⟩ (.slice (some ⟨g, 0, none⟩) t.cnts.length p2) = Wf at *
  have g0 : Wf.cell? ⟨w.heap.size + 1, 0, none⟩ = _ := hYf.cell rfl
  have g1 : Wf.cell? ⟨w.heap.size + 1, 1, none⟩ = _ := hYf.cell rfl
  refine bodyPost_ret (v := .agg #[.slice A1 t.vals.length p1, .slice (some ⟨g, 0, none⟩) t.cnts.length p2]) (by simp [results, Try.results32, go_sem, g0, g1]) rfl ?_
  have hzf := hbf.size
  have ho := own_bel2 hu hbf (fun k hk => by simp at hk; omega)
  rw [Hm.out] at ho
  rw [Hn.out, Hm.out]
  exact ⟨A1, p1, g, p2, rfl, cells_bel ha3 hbf (fun k hk => by have := (ha4 k hk).1; simp; omega), own_low2 ho (by omega), fun k hk => by have := (ha4 k hk).2; omega, by omega, hb5.trans (hbf.old (by have := hb5.size; omega) (by simp))⟩

set_option maxRecDepth 100000 in
theorem Pieces_any (A : Option Addr) (n c : Nat) (l : List Int) (w : World) (hn : l.length = n) (hm : n ≤ 100) (hd : Cells w A 1 encI l) (hv : ∀ x ∈ l, 0 ≤ x ∧ x ≤ 50) :
    Calls Try.prog 56 #[.slice A n c] w fun e w' => e = .returned (.int .i64 (isum l)) ∧ Below w.heap.size w w' := by
  have Hn := Lib.hid hn
  have Hv := Lib.hid hv
  clear hn hv
  go_enter Try.func56, Try.ntmps56
  go_wp2
  go_loopw [3, 4] (fun s x wr => ∃ (k : Nat) (S : Int), x = .int .i64 k ∧ s = .int .i64 S ∧ k ≤ n ∧ (0 ≤ S ∧ S ≤ k * 50) ∧ Hid (S = isum (l.take k)) ∧ w = wr) (fun _ x _ => n - (intOf x).toNat)
  case atStart => exact ⟨0, 0, rfl, rfl, by omega, by simp, Lib.hid (by simp [isum]), rfl⟩
  case round =>
    obtain ⟨k, S, rfl, rfl, hk, hS, HS, rfl⟩ := hrel
    by_cases hlt : k < n
    · have hlt' : (k : Int) < n := by omega
      have hk1 : k < l.length := by rw [Hn.out]; exact hlt
      obtain ⟨b, off, rfl, -, c0⟩ := hd.at1 hk1 rfl
      have h2 := Hv.out l[k] (List.getElem_mem _)
      have Hs := Lib.hid (show isum (l.take (k + 1)) = S + l[k] by rw [List.take_succ_eq_append_getElem hk1, isum_append, ← HS.out]; simp [isum])
      generalize l[k] = x at *
      go_wp2
      go_roundw
      case rel => exact ⟨k + 1, _, by go_num, rfl, by omega, by rw [show ((k + 1 : Nat) : Int) * 50 = (k : Int) * 50 + 50 by omega]; omega, Lib.hid (by rw [Hs.out]), trivial⟩
      case measure => simp [intOf]; omega
    · obtain rfl : k = n := by omega
      rw [List.take_of_length_le (by rw [Hn.out]; omega)] at HS
      go_wp2
      go_ret
      exact ⟨ret_congr (int_congr HS.out), Below.refl _ _⟩
theorem fit_bd {t : Tl} (h : t.ok) {l : List Int} {a : Int} (hw : t.worth l = (a, true)) : (∀ x ∈ l, 0 ≤ x ∧ x ≤ 50) ∧ l.length ≤ 8 := by
  have key : ∀ (l : List Int) (i : Nat), t.ff i l = true → ∀ x ∈ l, 0 ≤ x ∧ x ≤ 50 := by
    intro l
    induction l with
    | nil => intro i _ x hx; simp at hx
    | cons y l ih =>
      intro i hf x hx
      unfold Tl.ff at hf
      simp only [Bool.and_eq_true, decide_eq_true_eq] at hf
      rcases List.mem_cons.1 hx with rfl | hx
      · have := h.c_bd hf.1.1
        omega
      · exact ih _ hf.2 x hx
  rw [t.worth_eq] at hw
  split at hw
  · rename_i hf
    simp only [Prod.mk.injEq, decide_eq_true_eq] at hw
    have := h.len
    exact ⟨key l 0 hf, by omega⟩
  · simp at hw

set_option maxRecDepth 100000 in
set_option maxHeartbeats 8000000 in
theorem fewest_law (t : Tl) (A B : Option Addr) (n c m d : Nat) (x : Int) (F : Option Addr) (q f : Nat) (l : List Int) (y : Int) (w : World) (hn : t.vals.length = n) (hm : t.cnts.length = m) (h1 : n ≤ 9223372036854775807) (h2 : m ≤ 9223372036854775807) (hA : Cells w A 1 encI t.vals) (hB : Cells w B 1 encI t.cnts)
    (hx : 0 ≤ x ∧ x ≤ 65535) (hq : l.length = q) (hq9 : q ≤ 9223372036854775807) (hF : Cells w F 1 encI l) (hy : 0 ≤ y ∧ y ≤ 255) :
    Calls Try.prog 14 #[tlV A n c B m d, .int .u16 x, .slice F q f, .int .u8 y] w fun e w' => e = .returned (.bool true) ∧ Below w.heap.size w w' := by
  have hbw0 := ext_alloc w (.cells #[.slice A n c, .slice B m d] 62)
  have hX0 := Blk.new w 62 [.slice A n c, .slice B m d]
  have hA0 := hA.ext hbw0
  have hB0 := hB.ext hbw0
  have CR := Lib.hid (fun W hA hB => RightT_big t A B n c m d W hn hm h1 h2 hA hB)
  have HR := Lib.hid fun (h : t.okB = true) => hm.symm.trans (((t.okB_iff).1 h).eq.trans hn)
  have CT := Lib.hid (fun W h1 h2 hA hB => Till_put t A B n c m d W hn hm h1 h2 hA hB)
  have CO := Lib.hid (fun W h0 h1 h2 hA hB => Till_own t A B n c m d W hn hm h0 h1 h2 hA hB)
  have CC := Lib.hid (fun a A B c d W h1 h2 hA hB => Change_any t A B n c m d a W hn hm h1 h2 hA hB)
  have CG := Lib.hid (fun A B c d W h1 h2 hA hB => Gap_any t A B n c m d W hn hm h1 h2 hA hB)
  have Hn := Lib.hid hn
  have Hm := Lib.hid hm
  have Hq := Lib.hid hq
  have HF := Lib.hid (fun W (hb : Below w.heap.size w W) => hF.ext hb)
  clear hA hB hn hm hq hF
  unfold tlV at *
  go_enter Try.func14, Try.ntmps14
  go_upto_region 1 with fail
  change Blk (w.alloc (.cells #[.slice A n c, .slice B m d] 62)) _ _ _ at hX0
  generalize w.alloc (.cells #[.slice A n c, .slice B m d] 62) = W0 at *
  have x0 : W0.cell? ⟨w.heap.size, 0, none⟩ = _ := hX0.cell (i := 0) rfl
  have x1 : W0.cell? ⟨w.heap.size, 1, none⟩ = _ := hX0.cell (i := 1) rfl
  go_wp2_with fail
  refine (CR.out _ hA0 hB0).mono ?_; rintro e W1 ⟨rfl, hb1⟩
  have hbw1 := ext_trans hbw0 hb1
  have hX1 := hX0.ext hb1
  have hA1 := hA0.ext hb1
  have hB1 := hB0.ext hb1
  clear hbw0 hb1 hX0 hA0 hB0
  clear x0 x1 CR
  cases hok : t.okB
  · go_wp2_with fail
    refine (awake_any _).mono ?_; rintro e wz ⟨rfl, hbz⟩
    go_wp2
    go_ret
    exact ⟨rfl, ext_trans hbw1 hbz⟩
  obtain rfl : n = m := (HR.out hok).symm
  have hk := (t.okB_iff).1 hok
  have hn8 : 1 ≤ n ∧ n ≤ 8 := by have := hk.len; rw [Hn.out] at this; exact this
  have CW := Lib.hid (fun W hA hB => Worth_any t hk A B n c d B n d t.cnts W Hn.out Hm.out hA hB hB h2)
  have CV := Lib.hid (fun G g k v W (hv : v.length = k) hA hB hG h9 => Worth_any t hk A B n c d G k g v W Hn.out hv hA hB hG h9)
  rw [Tl.worth_self hk] at CW
  unfold tlV at CW CV
  clear HR
  have x0 : W1.cell? ⟨w.heap.size, 0, none⟩ = _ := hX1.cell (i := 0) rfl
  have x1 : W1.cell? ⟨w.heap.size, 1, none⟩ = _ := hX1.cell (i := 1) rfl
  go_wp2_with fail
  refine (CW.out _ hA1 hB1).mono ?_; rintro e W2 ⟨rfl, hb2⟩
  have hbw2 := ext_trans hbw1 hb2
  have hX2 := hX1.ext hb2
  have hA2 := hA1.ext hb2
  have hB2 := hB1.ext hb2
  clear hbw1 hb2 hX1 hA1 hB1
  clear x0 x1 CW
  have hwn := Tl.wh_bd hk _ (Nat.le_refl _)
  by_cases h4000 : 4000 < t.whole
  · have h4000' : (4000 : Int) < (t.whole : Int) := by omega
    clear hwn
    generalize t.whole = whole at *
    go_wp2_with fail
    refine (awake_any _).mono ?_; rintro e wz ⟨rfl, hbz⟩
    go_wp2
    go_ret
    exact ⟨rfl, ext_trans hbw2 hbz⟩
  have h4000' : ¬ (4000 : Int) < (t.whole : Int) := by omega
  have hwh : t.whole ≤ 4000 := by omega
  obtain ⟨whole, hwe⟩ : ∃ k, t.whole = k := ⟨_, rfl⟩
  have Hwe := Lib.hid hwe
  rw [hwe] at h4000' hwh ⊢
  clear hwn hwe h4000
  by_cases h12 : 12 < q
  · have h12' : (12 : Int) < (q : Int) := by omega
    go_wp2_with fail
    refine (awake_any _).mono ?_; rintro e wz ⟨rfl, hbz⟩
    go_wp2
    go_ret
    exact ⟨rfl, ext_trans hbw2 hbz⟩
  have h12' : ¬ (12 : Int) < (q : Int) := by omega
  obtain ⟨a, ham, ha⟩ : ∃ k : Nat, Int.tmod x 5001 = (k : Int) ∧ k ≤ 5000 := ⟨x.toNat % 5001, by rw [Int.tmod_eq_emod_of_nonneg hx.1]; omega, by omega⟩
  go_upto_region 7 with fail
  clear ham
  have x0 : W2.cell? ⟨w.heap.size, 0, none⟩ = _ := hX2.cell (i := 0) rfl
  have x1 : W2.cell? ⟨w.heap.size, 1, none⟩ = _ := hX2.cell (i := 1) rfl
  go_wp2_with fail
  refine (CT.out _ (by omega) (by omega) hA2 hB2).mono ?_; rintro e W3 ⟨A3, c3, B3, d3, rfl, fa, fb, hb3⟩
  have hbw3 := ext_trans hbw2 hb3
  have hX3 := hX2.ext hb3
  have hA3 := hA2.ext hb3
  have hB3 := hB2.ext hb3
  clear hbw2 hb3 hX2 hA2 hB2
  clear x0 x1
  go_wp2_with fail
  have hch : changeR t (a : Int) = if t.row 0 a = 401 then ([], 7) else (t.chg n a (t.row 0 a), 0) := by
    simp only [changeR, hok, if_true, if_pos (show 0 ≤ (a : Int) ∧ (a : Int) ≤ 5000 by omega), Int.toNat_natCast, Hn.out]
  have CC1 := Lib.hid (CC.out a A3 B3 c3 d3 _ (by omega) (by omega) fa fb)
  generalize hres : changeR t (a : Int) = res at *
  obtain ⟨ls, er⟩ := res
  have Hres := Lib.hid hch
  clear hch hres
  refine CC1.out.mono ?_; rintro e W4 ⟨v4, rfl, ⟨P, p, rfl, -, -, hf4, -⟩, hb4⟩
  have hbw4 := ext_trans hbw3 hb4
  have hX4 := hX3.ext hb4
  have hA4 := hA3.ext hb4
  have hB4 := hB3.ext hb4
  clear hbw3 hb4 hX3 hA3 hB3
  rw [List.length_map]
  clear fa fb CC1
  have x0 : W4.cell? ⟨w.heap.size, 0, none⟩ = _ := hX4.cell (i := 0) rfl
  have x1 : W4.cell? ⟨w.heap.size, 1, none⟩ = _ := hX4.cell (i := 1) rfl
  go_wp2_with fail
  have CV1 := Lib.hid (CV.out F f q l _ Hq.out hA4 hB4 (HF.out _ hbw4) hq9)
  obtain ⟨wo, hwo⟩ : ∃ k, t.worth l = k := ⟨_, rfl⟩
  rw [hwo] at CV1
  have Hwo := Lib.hid hwo
  clear hwo
  obtain ⟨wo, fb⟩ := wo
  refine CV1.out.mono ?_; rintro e W5 ⟨rfl, hb5⟩
  have hbw5 := ext_trans hbw4 hb5
  have hX5 := hX4.ext hb5
  have hA5 := hA4.ext hb5
  have hB5 := hB4.ext hb5
  have hf5 := hf4.ext hb5
  clear hbw4 hb5 hX4 hA4 hB4 hf4
  clear CV1 x0 x1
  have x0 : W5.cell? ⟨w.heap.size, 0, none⟩ = _ := hX5.cell (i := 0) rfl
  have x1 : W5.cell? ⟨w.heap.size, 1, none⟩ = _ := hX5.cell (i := 1) rfl
  go_wp2_with fail
  refine (CT.out _ (by omega) (by omega) hA5 hB5).mono ?_; rintro e W6 ⟨A6, c6, B6, d6, rfl, fa, fb6, hb6⟩
  have hbw6 := ext_trans hbw5 hb6
  have hX6 := hX5.ext hb6
  have hA6 := hA5.ext hb6
  have hB6 := hB5.ext hb6
  have hf6 := hf5.ext hb6
  clear hbw5 hb6 hX5 hA5 hB5 hf5
  clear x0 x1
  go_wp2_with fail
  refine (CG.out _ _ _ _ _ (by omega) (by omega) fa fb6).mono ?_; rintro e W7 ⟨g, er2, rfl, hd, hb7⟩
  have hbw7 := ext_trans hbw6 hb7
  have hX7 := hX6.ext hb7
  have hA7 := hA6.ext hb7
  have hB7 := hB6.ext hb7
  have hf7 := hf6.ext hb7
  clear hbw6 hb7 hX6 hA6 hB6 hf6
  rcases hd with ⟨h, -, -⟩ | ⟨-, rfl, hg⟩
  · rw [hok] at h; cases h
  have hg1 := Tl.gap_pos hk hg
  have hg2 := hg.le
  rw [Hwe.out] at hg2
  have Hg := Lib.hid hg
  have Hg4 := Lib.hid (Tl.gap_not hk hg)
  clear hg fa fb6
  have hls : (ls, er) = if t.row 0 a = 401 then ([], 7) else (t.chg n a (t.row 0 a), 0) := Hres.out
  have Her1 := Lib.hid (fun h : t.row 0 a = 401 => (by rw [if_pos h] at hls; exact hls : (ls, er) = ([], 7)))
  have Her0 := Lib.hid (fun h : ¬ t.row 0 a = 401 => (by rw [if_neg h] at hls; exact hls : (ls, er) = (t.chg n a (t.row 0 a), 0)))
  clear hls Hres
  go_upto_if 68 with fail
  go_cut [18, 19, 68] (fun _ _ _ W => Below W7.heap.size W7 W)
  case first =>
    by_cases h401 : t.row 0 a = 401
    · obtain ⟨rfl, rfl⟩ := Prod.mk.injEq .. ▸ Her1.out h401
      have Hno := Lib.hid (fun h : (wo, fb) = ((a : Int), true) => (Tl.worth_least hk (l := l) (a := a) (Hwo.out.trans h)).1 h401)
      clear Her1 Her0 h401
      cases fb
      · go_wp2
        go_meet
        case rel => exact Below.refl _ _
      · by_cases hwa : wo = (a : Int)
        · exact absurd (by rw [hwa]) Hno.out
        · have e1 : (wo == (a : Int)) = false := by simpa using hwa
          go_wp2
          go_meet
          case rel => exact Below.refl _ _
    · obtain ⟨rfl, rfl⟩ := Prod.mk.injEq .. ▸ Her0.out h401
      have hcw := Tl.chg_worth hk h401
      rw [Hn.out] at hcw
      have CV2 := Lib.hid (CV.out P p _ _ W7 (by rw [List.length_map]) hA7 hB7 hf7 (by rw [chg_len]; omega))
      rw [hcw.1] at CV2
      have hfb := fit_bd hk hcw.1
      have CP2 := Lib.hid (fun W h => Pieces_any P _ p _ W (List.length_map ..) (by rw [chg_len]; omega) h hfb.1)
      rw [hcw.2] at CP2
      have Hls := Lib.hid (fun h : (wo, fb) = ((a : Int), true) => (Tl.worth_least hk (l := l) (a := a) (Hwo.out.trans h)).2)
      have CP1 := Lib.hid (fun W (h : (wo, fb) = ((a : Int), true)) hF => Pieces_any F q f l W Hq.out (by omega) hF (fit_bd hk (Hwo.out.trans h)).1)
      clear Her1 Her0 h401 hcw hfb
      generalize (t.chg n a (t.row 0 a)).length = len at *
      generalize t.row 0 a = pc at *
      have x0 : W7.cell? ⟨w.heap.size, 0, none⟩ = _ := hX7.cell (i := 0) rfl
      have x1 : W7.cell? ⟨w.heap.size, 1, none⟩ = _ := hX7.cell (i := 1) rfl
      go_wp2_with fail
      refine CV2.out.mono ?_; rintro e W8 ⟨rfl, hb8⟩
      have hf8 := hf7.ext hb8
      have hF8 := HF.out _ (ext_trans hbw7 hb8)
      clear x0 x1 CV2
      cases fb
      · go_wp2
        go_meet
        case rel => exact hb8
      · by_cases hwa : wo = (a : Int)
        · subst hwa
          have hle := Hls.out rfl
          have CPo := Lib.hid (fun W hF => CP1.out W rfl hF)
          clear CP1 Hls
          generalize isum l = il at *
          have hnl : ¬ il < pc := by omega
          go_wp2_with fail
          refine (CPo.out _ hF8).mono ?_; rintro e W9 ⟨rfl, hb9⟩
          have hf9 := hf8.ext hb9
          go_wp2_with fail
          refine (CP2.out _ hf9).mono ?_; rintro e W10 ⟨rfl, hb10⟩
          go_wp2
          go_meet
          case rel => exact ext_trans (ext_trans hb8 hb9) hb10
        · have e1 : (wo == (a : Int)) = false := by simpa using hwa
          go_wp2
          go_meet
          case rel => exact hb8
  case rest =>
    have hb8 := hcut
    clear hcut
    generalize wc = W8 at *
    have hbw8 := ext_trans hbw7 hb8
    have hX8 := hX7.ext hb8
    have hA8 := hA7.ext hb8
    have hB8 := hB7.ext hb8
    clear hbw7 hb8 hX7 hA7 hB7
    clear hf7
    go_upto_region 16 with fail
    have Hlt := Lib.hid (fun h : a < g => (show er = 0 from by
      have h3 := Her0.out (Tl.gap_below Hg.out h)
      exact (Prod.mk.injEq .. ▸ h3).2))
    have Heq := Lib.hid (fun h : a = g => (show er = 7 from by
      have h3 := Her1.out (h ▸ Hg4.out)
      exact (Prod.mk.injEq .. ▸ h3).2))
    clear Her0 Her1
    have g1 : ¬ (g : Int) < 1 := by omega
    have g2 : ¬ (whole : Int) + 1 < (g : Int) := by omega
    go_cut [136] (fun z W => z = .bool false ∧ W8 = W)
    case first =>
      rcases Nat.lt_trichotomy a g with h | h | h
      · obtain rfl : er = 0 := Hlt.out h
        have e1 : (a : Int) < (g : Int) := by omega
        have e2 : ((a : Int) == (g : Int)) = false := by rw [beq_eq_false_iff_ne]; omega
        clear h
        go_wp2
        go_meet
        case rel => exact ⟨rfl, rfl⟩
      · obtain rfl : er = 7 := Heq.out h
        have e1 : ¬ (a : Int) < (g : Int) := by omega
        have e2 : ((a : Int) == (g : Int)) = true := by rw [beq_iff_eq]; omega
        clear h
        go_wp2
        go_meet
        case rel => exact ⟨rfl, rfl⟩
      · have e1 : ¬ (a : Int) < (g : Int) := by omega
        have e2 : ((a : Int) == (g : Int)) = false := by rw [beq_eq_false_iff_ne]; omega
        clear h
        go_wp2
        go_meet
        case rel => exact ⟨rfl, rfl⟩
    case rest =>
      obtain ⟨rfl, rfl⟩ := hcut
      clear g1 g2 Hlt Heq
      have hch2 : changeR t (g : Int) = ([], 7) := by
        simp only [changeR, hok, if_true, if_pos (show 0 ≤ (g : Int) ∧ (g : Int) ≤ 5000 by omega), Int.toNat_natCast, if_pos Hg4.out]
      have CC2 := Lib.hid (fun A B c d W hA hB => CC.out (g : Int) A B c d W (by omega) (by omega) hA hB)
      rw [hch2] at CC2
      simp only [List.map_nil] at CC2
      clear hch2 CC
      have x0 : W8.cell? ⟨w.heap.size, 0, none⟩ = _ := hX8.cell (i := 0) rfl
      have x1 : W8.cell? ⟨w.heap.size, 1, none⟩ = _ := hX8.cell (i := 1) rfl
      go_wp2_with fail
      refine (CT.out _ (by omega) (by omega) hA8 hB8).mono ?_; rintro e W9 ⟨A9, c9, B9, d9, rfl, fa, fb9, hb9⟩
      have hbw9 := ext_trans hbw8 hb9
      have hX9 := hX8.ext hb9
      have hA9 := hA8.ext hb9
      have hB9 := hB8.ext hb9
      clear hbw8 hb9 hX8 hA8 hB8
      clear x0 x1
      go_wp2_with fail
      refine (CC2.out _ _ _ _ _ fa fb9).mono ?_; rintro e WA ⟨vA, rfl, -, hbA⟩
      have hbwA := ext_trans hbw9 hbA
      have hXA := hX9.ext hbA
      have hAA := hA9.ext hbA
      have hBA := hB9.ext hbA
      clear hbw9 hbA hX9 hA9 hB9
      clear fa fb9 CC2
      have x0 : WA.cell? ⟨w.heap.size, 0, none⟩ = _ := hXA.cell (i := 0) rfl
      have x1 : WA.cell? ⟨w.heap.size, 1, none⟩ = _ := hXA.cell (i := 1) rfl
      go_wp2_with fail
      refine (CO.out _ hn8.1 (by omega) (by omega) hAA hBA).mono ?_; rintro e WB ⟨AB, cB, gB, dB, rfl, fAB, hoB, hne, hgB, hbB⟩
      have hgl := (hoB.lt (k := gB) rfl).2
      have hZ := Blk.new WB 66 [.slice AB n cB, .slice (some ⟨gB, 0, none⟩) n dB]
      have hal := ext_alloc WB (.cells #[.slice AB n cB, .slice (some ⟨gB, 0, none⟩) n dB] 66)
      have hoC := hoB.ext hal
      have hAC := fAB.ext hal
      have hbAC := ext_trans hbB hal
      clear x0 x1 CO fAB
      go_upto_region 20 with fail
      have hzs : WB.heap.size ≤ (WB.alloc (.cells #[.slice AB n cB, .slice (some ⟨gB, 0, none⟩) n dB] 66)).heap.size := hal.size
      change Blk (WB.alloc (.cells #[.slice AB n cB, .slice (some ⟨gB, 0, none⟩) n dB] 66)) _ _ _ at hZ
      clear hal hoB hbB
      generalize WB.heap.size = Z at *
      generalize WB.alloc (.cells #[.slice AB n cB, .slice (some ⟨gB, 0, none⟩) n dB] 66) = WC at *
      obtain ⟨k, hkm, hkn⟩ : ∃ k : Nat, Int.tmod y n = (k : Int) ∧ k < n := ⟨y.toNat % n, by rw [Int.tmod_eq_emod_of_nonneg hy.1, Int.natCast_emod, Int.toNat_of_nonneg hy.1], Nat.mod_lt _ (by omega)⟩
      have hn0 : ¬ (n : Int) = 0 := by omega
      have kc : k < t.cnts.length := by rw [Hm.out]; exact hkn
      have x1 : WC.cell? ⟨w.heap.size, 1, none⟩ = _ := (hXA.ext hbAC).cell (i := 1) rfl
      go_upto_region 21 with fail
      clear x1 hkm hn0
      have hkn' : (k : Int) < n := by omega
      have hgk : t.cnts.getD k 0 = t.cnts[k] := by simp [kc]
      obtain ⟨A7, q7, hv7, -, -, hC7⟩ := hoC.cells encI_len
      obtain ⟨rfl, rfl⟩ : A7 = some ⟨gB, 0, none⟩ ∧ dB = q7 := by have h := hv7; rw [Value.slice.injEq] at h; exact ⟨h.1.symm, h.2.2⟩
      clear hv7
      obtain ⟨b7, o7, e7, -, t0⟩ := hC7.at1 kc rfl
      obtain ⟨rfl, rfl⟩ : gB = b7 ∧ 0 = o7 := by simpa [eq_comm] using e7
      have hcb := hk.cnt _ (List.getElem_mem kc)
      have Hgk := Lib.hid hgk
      rw [Nat.zero_add] at t0
      clear hgk e7 hC7
      have H50 := Lib.hid (show t.cnts.getD k 0 = t.cnts[k] from Hgk.out)
      generalize hcv : t.cnts[k] = cv at *
      have Hcv := Lib.hid hcv
      clear hcv
      have z1 : WC.cell? ⟨Z, 1, none⟩ = _ := hZ.cell (i := 1) rfl
      by_cases h50 : cv = 50
      · subst h50
        go_wp2_with fail
        refine (awake_any _).mono ?_; rintro e wz ⟨rfl, hbz⟩
        go_wp2
        go_ret
        exact ⟨rfl, ext_trans (ext_trans hbwA hbAC) hbz⟩
      have e50 : (cv == 50) = false := by simpa using h50
      have fz := hoC.frozen k
      have hne50 : t.cnts.getD k 0 ≠ 50 := by rw [H50.out]; exact h50
      go_upto_region 24 with fail
      clear z1 t0 fz e50
      have hoD := OwnL.set1 hoC (i := k) kc (cv + 1)
      have hblD : Dr.Bel [gB] WC (WC.setCell ⟨gB, k, none⟩ (.int .i64 (cv + 1))) := Dr.Bel.store (by simp) _
      generalize WC.setCell ⟨gB, k, none⟩ (.int .i64 (cv + 1)) = WD at *
      obtain ⟨A8, q8, hv8, -, -, hC8⟩ := hoD.cells encI_len
      obtain rfl : A8 = some ⟨gB, 0, none⟩ := by have h := hv8; rw [Value.slice.injEq] at h; exact h.1.symm
      clear hv8
      have hC9 : Cells WD (some ⟨gB, 0, none⟩) 1 encI (t.inc k).cnts := by
        have e : (t.inc k).cnts = t.cnts.set k (cv + 1) := by show t.cnts.set k (t.cnts.getD k 0 + 1) = _; rw [H50.out]
        rw [e]; exact hC8
      have hbAD : Below WA.heap.size WA WD := hbAC.trans (hblD.old (by have := hbAC.size; omega) (by simp; omega))
      have hZD := hblD.blk hZ (by simp; omega)
      have hAD : Cells WD AB 1 encI (t.inc k).vals := cells_bel hAC hblD (fun j hj => by have := hne j hj; simp; omega)
      have hki := Tl.inc_ok hk kc hne50
      have CI := Lib.hid (Gap_any (t.inc k) AB (some ⟨gB, 0, none⟩) n cB n dB WD Hn.out (by show (t.cnts.set _ _).length = n; rw [List.length_set]; exact Hm.out) (by omega) (by omega) hAD hC9)
      have Hfin := Lib.hid (fun g2 h2 => Tl.inc_gap hk kc hne50 Hg.out (g2 := g2) h2)
      have hoki : (t.inc k).okB = true := ((t.inc k).okB_iff).2 hki
      unfold tlV at CI
      clear hoC hoD hblD hC8 hC9 hAC hZ hbAC hAD
      have z0 : WD.cell? ⟨Z, 0, none⟩ = _ := hZD.cell (i := 0) rfl
      have z1 : WD.cell? ⟨Z, 1, none⟩ = _ := hZD.cell (i := 1) rfl
      go_wp2_with fail
      refine CI.out.mono ?_; rintro e WE ⟨g2, er2, rfl, hd, hbE⟩
      rcases hd with ⟨h, -, -⟩ | ⟨-, rfl, hg2⟩
      · rw [hoki] at h; cases h
      have hgg := Hfin.out g2 hg2
      have hgg' : (g : Int) ≤ (g2 : Int) := by omega
      clear hg2 CI z0 z1 hZD
      go_wp2_with fail
      refine (awake_any _).mono ?_; rintro e wz ⟨rfl, hbz⟩
      go_wp2
      go_ret
      exact ⟨rfl, ext_trans (ext_trans (ext_trans hbwA hbAD) hbE) hbz⟩
end Go.Proofs.Ytnjdlhhgnamigaa

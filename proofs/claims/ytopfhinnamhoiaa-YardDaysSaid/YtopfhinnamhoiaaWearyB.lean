/- Walk: Weary. -/
import Derived.Test.YtopfhinnamhoiaaWearyA
namespace Go.Proofs.Ytopfhinnamhoiaa
open Go.RowKit Go.Bs Go.Yd Go.Pl Go.Sort

def tupW (r : Int × Int × Int) : Value := .tuple #[.int .i64 r.1, .int .u8 r.2.1, .int .i64 r.2.2]

theorem weary_rule (d k : Int) (A : Option Addr) (n cap : Nat) (w : World) (h : ruleB d k = false) :
    Calls Try.prog 18 #[.agg #[.int .i64 d, .int .i64 k], .slice A n cap] w fun e w' => e = .returned (.tuple #[.int .i64 0, .int .u8 0, .int .i64 1]) ∧ Below w.heap.size w w' := by
  by_cases h1 : 0 ≤ d ∧ d ≤ 1440
  · have h2 : ¬ (0 ≤ k ∧ k ≤ 10080) := by
      intro h2
      simp [ruleB, h1, h2] at h
    have c1 := within_t h1
    have c2 := within_f h2
    have C1 := Lib.hid c1
    have C2 := Lib.hid c2
    clear c1 c2 h h1 h2
    go_enter Try.func18, Try.ntmps18
    go_wp2_with fail
    refine (C1.out _).mono ?_; rintro e w1 ⟨rfl, rfl⟩
    go_wp2_with fail
    refine (C2.out _).mono ?_; rintro e w1 ⟨rfl, rfl⟩
    go_wp2
    go_ret3
    exact ⟨rfl, ext_alloc _ _⟩
  · have c1 := within_f h1
    have C1 := Lib.hid c1
    clear c1 h h1
    go_enter Try.func18, Try.ntmps18
    go_wp2_with fail
    refine (C1.out _).mono ?_; rintro e w1 ⟨rfl, rfl⟩
    go_wp2
    go_ret3
    exact ⟨rfl, ext_alloc _ _⟩

theorem weary_long (d k : Int) (A : Option Addr) (n cap : Nat) (w : World) (h : ruleB d k = true) (hn : 60 < n) :
    Calls Try.prog 18 #[.agg #[.int .i64 d, .int .i64 k], .slice A n cap] w fun e w' => e = .returned (.tuple #[.int .i64 0, .int .u8 0, .int .i64 3]) ∧ Below w.heap.size w w' := by
  simp only [ruleB, Bool.and_eq_true, decide_eq_true_eq] at h
  have C1 := Lib.hid (within_t h.1)
  have C2 := Lib.hid (within_t h.2)
  clear h
  have hn' : (60 : Int) < n := by omega
  go_enter Try.func18, Try.ntmps18
  go_wp2_with fail
  refine (C1.out _).mono ?_; rintro e w1 ⟨rfl, rfl⟩
  go_wp2_with fail
  refine (C2.out _).mono ?_; rintro e w1 ⟨rfl, rfl⟩
  go_wp2
  go_ret3
  exact ⟨rfl, ext_alloc _ _⟩

theorem weary_bad (d k : Int) (A : Option Addr) (n cap : Nat) (l : List Int) (w : World) (h : ruleB d k = true) (hln : l.length = n) (hn : n ≤ 60) (hd : Cells w A 1 encI l) (hv : l.all (fun x => decide (0 ≤ x ∧ x ≤ 1440)) = false) :
    Calls Try.prog 18 #[.agg #[.int .i64 d, .int .i64 k], .slice A n cap] w fun e w' => e = .returned (.tuple #[.int .i64 0, .int .u8 0, .int .i64 2]) ∧ Below w.heap.size w w' := by
  simp only [ruleB, Bool.and_eq_true, decide_eq_true_eq] at h
  have C1 := Lib.hid (within_t h.1)
  have C2 := Lib.hid (within_t h.2)
  have hb0 := ext_alloc w (.cells #[.int .i64 d, .int .i64 k] 29)
  have C3 := Lib.hid (all_int 73 #[] (fun x => decide (0 ≤ x ∧ x ≤ 1440)) A n cap l _ (enters_of Try.func73 (by kernel_rfl) rfl) hln (by omega) (hd.ext hb0) (day_ok l _))
  rw [hv] at C3
  clear h hd hv hln
  have hn' : (n : Int) ≤ 60 := by omega
  go_enter Try.func18, Try.ntmps18
  go_wp2_with fail
  refine (C1.out _).mono ?_; rintro e w1 ⟨rfl, rfl⟩
  go_wp2_with fail
  refine (C2.out _).mono ?_; rintro e w1 ⟨rfl, rfl⟩
  go_wp2_with fail
  refine C3.out.mono ?_; rintro e w1 ⟨rfl, hb1⟩
  go_wp2
  go_ret3
  exact ⟨rfl, ext_trans hb0 hb1⟩

set_option maxHeartbeats 800000 in
theorem weary_ok (d k : Int) (A : Option Addr) (n cap : Nat) (l : List Int) (w : World) (h : ruleB d k = true) (hln : l.length = n) (hn : n ≤ 60) (hcap : n ≤ cap) (hd : Cells w A 1 encI l) (hv : l.all (fun x => decide (0 ≤ x ∧ x ≤ 1440)) = true) :
    Calls Try.prog 18 #[.agg #[.int .i64 d, .int .i64 k], .slice A n cap] w fun e w' => e = .returned (tupW (wearyR d k l)) ∧ Below w.heap.size w w' := by
  have hR : wearyR d k l = match (List.range l.length).find? (fun i => whyI d k (l.take (i + 1)) != 0) with
    | some i => ((i : Int), whyI d k (l.take (i + 1)), 0)
    | none => (0, 0, 7) := by
    unfold wearyR
    rw [h, hv, if_neg (by simp), if_neg (by omega), if_neg (by simp)]
    rfl
  have hv' : ∀ x ∈ l, 0 ≤ x ∧ x ≤ 1440 := fun x hx => by simpa using List.all_eq_true.1 hv x hx
  simp only [ruleB, Bool.and_eq_true, decide_eq_true_eq] at h
  have C1 := Lib.hid (within_t h.1)
  have C2 := Lib.hid (within_t h.2)
  have hb0 := ext_alloc w (.cells #[.int .i64 d, .int .i64 k] 29)
  have C3 := Lib.hid (all_int 73 #[] (fun x => decide (0 ≤ x ∧ x ≤ 1440)) A n cap l _ (enters_of Try.func73 (by kernel_rfl) rfl) hln (by omega) (hd.ext hb0) (day_ok l _))
  rw [hv] at C3
  have C4 : Hid (∀ (i : Nat) (W : World), i < n → Below w.heap.size w W → Calls Try.prog 74 #[.agg #[.int .i64 d, .int .i64 k, .slice (cutA A 1 cap 0) (i + 1) cap]] W fun e w' => e = .returned (.int .u8 (whyI d k (l.take (i + 1)))) ∧ Below W.heap.size W w') :=
    Lib.hid fun i W hi hb => why_any d k _ (i + 1) cap (l.take (i + 1)) W (by simp; omega) (by omega) (by omega) (by omega) ((Cells.cut0 hd (cap := cap) (by omega)).ext hb) (fun x hx => hv' x (List.mem_of_mem_take hx))
  have Hw : Hid (∀ i, i < n → whyI d k (l.take (i + 1)) = 0 ∨ whyI d k (l.take (i + 1)) ≠ 0) := Lib.hid fun i _ => by omega
  simp only [cutA_zero] at C4
  have HR := Lib.hid hR
  have Hln := Lib.hid hln
  clear hR hln h hd hv hv'
  have hn' : (n : Int) ≤ 60 := by omega
  go_enter Try.func18, Try.ntmps18
  go_wp2_with fail
  refine (C1.out _).mono ?_; rintro e w1 ⟨rfl, rfl⟩
  go_wp2_with fail
  refine (C2.out _).mono ?_; rintro e w1 ⟨rfl, rfl⟩
  go_wp2_with fail
  refine C3.out.mono ?_; rintro e w1 ⟨rfl, hb1⟩
  go_wp2
  go_loopw [7, 8, 30] (fun _ _ t wr => ∃ (i : Nat), i ≤ n ∧ t = .int .i64 i ∧ Hid (∀ j, j < i → whyI d k (l.take (j + 1)) = 0) ∧ Below w.heap.size w wr ∧ wr.cell? ⟨w.heap.size, 0, none⟩ = some (.int .i64 d) ∧ wr.cell? ⟨w.heap.size, 1, none⟩ = some (.int .i64 k)) (fun _ _ t _ => n - (intOf t).toNat)
  case atStart => exact ⟨0, by omega, rfl, Lib.hid (by omega), ext_trans hb0 hb1, cell_ext (by simp) hb1, cell_ext (by simp) hb1⟩
  case round =>
    obtain ⟨i, hi, rfl, Hj, hb, d0, d1⟩ := hrel
    by_cases hlt : i < n
    · have hi0 : (0 : Int) ≤ i := by omega
      have hi1 : (i : Int) + 1 ≤ cap := by omega
      go_wp2
      refine Dr.wp_region_plan 8 [] (.q [0, 1, 2, 3, 4, 5] (.e1 6 (.q [7] .done))) (by kernel_rfl) (by kernel_rfl) ?_
      generalize hW : World.drew _ = W
      have hbW : Below wr.heap.size wr W := by rw [← hW]; exact ext_drew _
      have q0 := Dr.cell0 (cell_ext d0 hbW)
      have q1 := Dr.cell0 (cell_ext d1 hbW)
      clear hW
      refine Dr.plan_q (l := [_, _, _, _, _, _]) rfl (fun K hK => ?_)
      iterate 6 (go_big_quiet_step (fail))
      refine wpQuiet_nil (hK _ ?_); clear hK K
      refine Dr.plan_e rfl (by rfl) (fun K hK => ?_)
      go_wp2_with fail
      refine (C4.out i W hlt (ext_trans hb hbW)).mono ?_; rintro e w2 ⟨rfl, hb2⟩
      refine hK _ _ (.of hb2) ?_; clear hK K
      refine Dr.plan_q (l := [_]) rfl (fun K hK => ?_)
      iterate 1 (go_big_quiet_step (fail))
      refine wpQuiet_nil (hK _ ?_); clear hK K
      refine Dr.plan_end rfl ?_
      have d0' := cell_ext (cell_ext d0 hbW) hb2
      have d1' := cell_ext (cell_ext d1 hbW) hb2
      have hb3 := ext_trans (ext_trans hb hbW) hb2
      clear d0 d1 q0 q1
      generalize hy : whyI d k (l.take (i + 1)) = y
      by_cases hz : y = 0
      · subst hz
        have Hy := Lib.hid hy
        clear hy
        go_wp2
        go_roundw
        case rel => exact ⟨i + 1, by omega, by go_num, Lib.hid (fun j hj => by
          by_cases e : j = i
          · rw [e]; exact Hy.out
          · exact Hj.out j (by omega)), hb3, d0', d1'⟩
        case measure => simp [intOf]; omega
      · have hne : (y != 0) = true := by simpa using hz
        have Hy := Lib.hid hy
        have Hz := Lib.hid hz
        clear hy hz
        go_wp2
        go_ret3
        refine ⟨ret_congr ?_, hb3⟩
        rw [HR.out, Hln.out, show (List.range n).find? (fun i => whyI d k (l.take (i + 1)) != 0) = some i from ?_]
        · show _ = tupW ((i : Int), whyI d k (l.take (i + 1)), 0)
          rw [Hy.out]; rfl
        · rw [List.find?_range_eq_some]
          refine ⟨by rw [Hy.out]; exact hne, by simpa using hlt, fun j hj => ?_⟩
          simp [Hj.out j hj]
    · go_wp2
      go_ret3
      refine ⟨ret_congr ?_, hb⟩
      have hi' : i = n := by omega
      rw [HR.out, Hln.out, show (List.range n).find? (fun i => whyI d k (l.take (i + 1)) != 0) = none from ?_]
      · rfl
      · rw [List.find?_range_eq_none]
        intro j hj
        simp [Hj.out j (by omega)]

/-- Weary, for every input. -/
theorem weary_any (d k : Int) (A : Option Addr) (n cap : Nat) (l : List Int) (w : World) (hln : l.length = n) (hcap : n ≤ cap) (hd : Cells w A 1 encI l) :
    Calls Try.prog 18 #[.agg #[.int .i64 d, .int .i64 k], .slice A n cap] w fun e w' => e = .returned (tupW (wearyR d k l)) ∧ Below w.heap.size w w' := by
  cases h : ruleB d k
  · have : wearyR d k l = (0, 0, 1) := by unfold wearyR; rw [h]; rfl
    rw [this]; exact weary_rule d k A n cap w h
  · by_cases hn : 60 < n
    · have : wearyR d k l = (0, 0, 3) := by unfold wearyR; rw [h, if_neg (by simp), if_pos (by omega)]
      rw [this]; exact weary_long d k A n cap w h hn
    · cases hv : l.all (fun x => decide (0 ≤ x ∧ x ≤ 1440))
      · have : wearyR d k l = (0, 0, 2) := by unfold wearyR; rw [h, hv, if_neg (by simp), if_neg (by omega)]; rfl
        rw [this]; exact weary_bad d k A n cap l w h hln (by omega) hd hv
      · exact weary_ok d k A n cap l w h hln (by omega) hcap hd hv
end Go.Proofs.Ytopfhinnamhoiaa

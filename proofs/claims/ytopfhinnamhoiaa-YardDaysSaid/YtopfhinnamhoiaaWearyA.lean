/- Walks: slices.Index, slices.Contains at ints; sum; the faults of a day. -/
import Derived.Test.YtopfhinnamhoiaaAllA
import Derived.Test.YtopfhinnamhoiaaSpecW
namespace Go.Proofs.Ytopfhinnamhoiaa
open Go.RowKit Go.Bs Go.Yd Go.Pl Go.Sort

set_option maxHeartbeats 800000 in
theorem sindex_int (v : Int) (A : Option Addr) (n cap : Nat) (l : List Int) (w : World) (hn : l.length = n) (hm : n ≤ 9223372036854775807) (hd : Cells w A 1 encI l) :
    Calls Try.prog 110 #[.slice A n cap, .int .i64 v] w fun e w' => e = .returned (.int .i64 (idxF (fun x => v == x) l)) ∧ w = w' := by
  have Hn := Lib.hid hn
  clear hn
  generalize hres : idxF (fun x => v == x) l = res
  have Hres := Lib.hid hres
  clear hres
  go_enter Try.func110, Try.ntmps110
  go_wp2
  go_loop [5, 8] (fun _ t => ∃ (k : Nat), k ≤ n ∧ t = .int .i64 k ∧ Hid (∀ x ∈ l.take k, (v == x) = false)) (fun _ t => n - (intOf t).toNat)
  case atStart => exact ⟨0, by omega, rfl, Lib.hid (by simp)⟩
  case round =>
    obtain ⟨k, hk, rfl, Hk⟩ := hrel
    by_cases hlt : k < n
    · have hk1 : k < l.length := by rw [Hn.out]; exact hlt
      obtain ⟨b, off, rfl, hbl, c0⟩ := hd.at1 hk1 rfl
      have hz : (0 : Int) ≤ k := by omega
      cases hq : v == l[k]
      · have Hq := Lib.hid hq
        go_wp2
        go_round
        case rel => exact ⟨k + 1, by omega, by go_num, Lib.hid (fun x hx => by
          rw [List.take_succ_eq_append_getElem hk1] at hx
          rcases List.mem_append.1 hx with hx | hx
          · exact Hk.out x hx
          · simp at hx; rw [hx]; exact Hq.out)⟩
        case measure => simp [intOf]; omega
      · have Hq := Lib.hid hq
        go_wp2
        go_ret
        exact ⟨ret_congr (int_congr (by rw [← Hres.out, idxF_hit (p := fun x => v == x) hk1 Hq.out Hk.out])), rfl⟩
    · go_wp2
      go_ret
      exact ⟨ret_congr (int_congr (by rw [← Hres.out, idxF_miss (p := fun x => v == x) (fun x hx => Hk.out x (by rw [List.take_of_length_le (by rw [Hn.out]; omega)]; exact hx))])), rfl⟩

theorem scontains_int (v : Int) (A : Option Addr) (n cap : Nat) (l : List Int) (w : World) (hn : l.length = n) (hm : n ≤ 9223372036854775807) (hd : Cells w A 1 encI l) :
    Calls Try.prog 83 #[.slice A n cap, .int .i64 v] w fun e w' => e = .returned (.bool (l.contains v)) ∧ w = w' := by
  have hc := sindex_int v A n cap l w hn hm hd
  rw [show l.contains v = decide (0 ≤ idxF (fun x => v == x) l) by rw [idxF_nonneg, List.contains_eq_any_beq]]
  generalize idxF (fun x => v == x) l = x at *
  have Hc := Lib.hid hc
  clear hc hn hd
  go_enter Try.func83, Try.ntmps83
  go_wp2_with fail
  refine Hc.out.mono ?_; rintro e w1 ⟨rfl, rfl⟩
  go_wp2
  go_ret
  exact ⟨rfl, rfl⟩

set_option maxHeartbeats 800000 in
theorem sum_any (A : Option Addr) (n cap : Nat) (l : List Int) (w : World) (hn : l.length = n) (hm : n ≤ 1000) (hd : Cells w A 1 encI l) (hv : ∀ x ∈ l, 0 ≤ x ∧ x ≤ 1000000000000) :
    Calls Try.prog 125 #[.slice A n cap] w fun e w' => e = .returned (.int .i64 (isum l)) ∧ w = w' := by
  have Hn := Lib.hid hn
  clear hn
  have Hv := Lib.hid hv
  clear hv
  go_enter Try.func125, Try.ntmps125
  go_wp2
  go_loop [2, 4, 7] (fun s _ t => ∃ (k : Nat) (x : Int), k ≤ n ∧ t = .int .i64 k ∧ s = .int .i64 x ∧ (0 ≤ x ∧ x ≤ 1000000000000000) ∧ Hid (x = isum (l.take k))) (fun _ _ t => n - (intOf t).toNat)
  case atStart => exact ⟨0, 0, by omega, rfl, rfl, by omega, Lib.hid rfl⟩
  case round =>
    obtain ⟨k, x, hk, rfl, rfl, hx, Hx⟩ := hrel
    by_cases hlt : k < n
    · have hk1 : k < l.length := by rw [Hn.out]; exact hlt
      obtain ⟨b, off, rfl, hbl, c0⟩ := hd.at1 hk1 rfl
      have h2 := Hv.out l[k] (List.getElem_mem _)
      have h1 : 0 ≤ x + l[k] ∧ x + l[k] ≤ 1000000000000000 := by
        have hs := isum_map_take_succ id l k hk1
        have h3 := isum_map_bd id (l.take (k + 1)) 1000000000000 (fun x hx => Hv.out x (List.mem_of_mem_take hx))
        have h4 : ((l.take (k + 1)).length : Int) ≤ 1000 := by simp; omega
        simp only [List.map_id, id] at hs h3
        rw [hs, ← Hx.out] at h3
        omega
      have H1 := Lib.hid (isum_map_take_succ id l k hk1)
      have hz : (0 : Int) ≤ k := by omega
      go_wp2
      go_round
      case rel => exact ⟨k + 1, _, by omega, by go_num, rfl, h1, Lib.hid (by have := H1.out; simp only [List.map_id, id] at this; rw [this, ← Hx.out])⟩
      case measure => simp [intOf]; omega
    · go_wp2
      go_ret
      exact ⟨ret_congr (int_congr (by rw [Hx.out, List.take_of_length_le (by rw [Hn.out]; omega)])), rfl⟩

theorem week_any (d k : Int) (A : Option Addr) (n cap : Nat) (w : World) (hm : n ≤ 1000) (hcap : n ≤ cap) :
    Calls Try.prog 126 #[.agg #[.int .i64 d, .int .i64 k, .slice A n cap]] w fun e w' => e = .returned (.slice (cutA A 1 cap (n - 7)) (n - (n - 7)) (cap - (n - 7))) ∧ Below w.heap.size w w' := by
  generalize hres : (Value.slice (cutA A 1 cap (n - 7)) (n - (n - 7)) (cap - (n - 7))) = v
  have Hres := Lib.hid hres
  clear hres
  by_cases h7 : 7 < n
  · have h77 : (7 : Int) < n := by omega
    go_enter Try.func126, Try.ntmps126
    go_wp2
    go_ret
    refine ⟨ret_congr ?_, ext_alloc _ _⟩
    rw [← Hres.out, cutA_pos _ (by omega)]
    simp only [Nat.mul_one]
    rfl
  · go_enter Try.func126, Try.ntmps126
    go_wp2
    go_ret
    refine ⟨ret_congr ?_, ext_alloc _ _⟩
    rw [← Hres.out, show n - 7 = 0 by omega, cutA_zero]
    rfl

theorem long_any (d k : Int) (A : Option Addr) (n cap : Nat) (l : List Int) (w : World) (hn : l.length = n) (h1 : 1 ≤ n) (hm : n ≤ 1000) (hd : Cells w A 1 encI l) :
    Calls Try.prog 99 #[.agg #[.int .i64 d, .int .i64 k, .slice A n cap]] w fun e w' => e = .returned (.bool (longB d l)) ∧ Below w.heap.size w w' := by
  obtain ⟨b, off, rfl, hbl, c0⟩ := hd.at1 (k := n - 1) (by omega) (v := .int .i64 (l.getD (n - 1) 0)) (by simp [encI, show n - 1 < l.length by omega])
  have hb1 := ext_alloc w (.cells #[.int .i64 d, .int .i64 k, .slice (some ⟨b, off, none⟩) n cap] 127)
  unfold longB
  rw [hn]
  clear hn
  generalize l.getD (n - 1) 0 = x at *
  have hz : (0 : Int) ≤ (n : Int) - 1 ∧ (n : Int) - 1 < n := by omega
  have e1 : ((n : Int) - 1).toNat = n - 1 := by omega
  go_enter Try.func99, Try.ntmps99
  go_wp2
  refine Dr.wp_region_plan 13 [] (.q [0, 1, 2, 3, 4, 5, 6, 7, 8, 9, 10, 11, 12] .done) (by kernel_rfl) (by kernel_rfl) ?_
  generalize hW : World.drew _ = W
  have hbW : Below w.heap.size w W := by rw [← hW]; exact hb1.drew
  have q0 := Dr.cell0 (w := W) (a := ⟨w.heap.size, 0, none⟩) (v := .int .i64 d) (by rw [← hW]; simp)
  have q2 := Dr.cell0 (w := W) (a := ⟨w.heap.size, 2, none⟩) (v := .slice (some ⟨b, off, none⟩) n cap) (by rw [← hW]; simp)
  have q3 := Dr.cell0 (cell_ext c0 hbW)
  clear hW
  refine Dr.plan_q (l := [_, _, _, _, _, _, _, _, _, _, _, _, _]) rfl (fun K hK => ?_)
  iterate 13 (go_big_quiet_step (fail))
  refine wpQuiet_nil (hK _ ?_); clear hK K
  refine Dr.plan_end rfl ?_
  go_wp2
  go_ret
  exact ⟨rfl, hbW⟩

theorem weekL_cells {w : World} {A : Option Addr} {n cap : Nat} {l : List Int} (hd : Cells w A 1 encI l) (hn : l.length = n) (hcap : n ≤ cap) : Cells w (cutA A 1 cap (n - 7)) 1 encI (weekL l) := by
  have := Cells.cut hd (cap := cap) (lo := n - 7) (hi := n) (by omega) hcap
  rw [List.take_of_length_le (by simp; omega)] at this
  unfold weekL
  rw [hn]; exact this
theorem weekL_len {n : Nat} {l : List Int} (hn : l.length = n) : (weekL l).length = n - (n - 7) := by unfold weekL; rw [List.length_drop, hn]
theorem weekL_mem {l : List Int} {x : Int} (h : x ∈ weekL l) : x ∈ l := List.mem_of_mem_drop h

theorem full_any (d k : Int) (A : Option Addr) (n cap : Nat) (l : List Int) (w : World) (hn : l.length = n) (hm : n ≤ 1000) (hcap : n ≤ cap) (hd : Cells w A 1 encI l) (hv : ∀ x ∈ l, 0 ≤ x ∧ x ≤ 1440) :
    Calls Try.prog 100 #[.agg #[.int .i64 d, .int .i64 k, .slice A n cap]] w fun e w' => e = .returned (.bool (fullB k l)) ∧ Below w.heap.size w w' := by
  have hb1 := ext_alloc w (.cells #[.int .i64 d, .int .i64 k, .slice A n cap] 127)
  have hwk := weekL_cells hd hn hcap
  have hwn := weekL_len hn
  have hv' : ∀ x ∈ weekL l, 0 ≤ x ∧ x ≤ 1000000000000 := fun x hx => by have := hv x (weekL_mem hx); omega
  unfold fullB
  clear hn hd
  generalize weekL l = l' at *
  have Hwn := Lib.hid hwn
  clear hwn
  go_enter Try.func100, Try.ntmps100
  go_wp2
  refine Dr.wp_region_plan 8 [] (.q [0, 3, 4, 5] (.e1 1 (.e1 2 (.q [6, 7] .done)))) (by kernel_rfl) (by kernel_rfl) ?_
  generalize hW : World.drew _ = W
  have hbW : Below w.heap.size w W := by rw [← hW]; exact hb1.drew
  have q0 := Dr.cell0 (w := W) (a := ⟨w.heap.size, 0, none⟩) (v := .int .i64 d) (by rw [← hW]; simp)
  have q1 := Dr.cell0 (w := W) (a := ⟨w.heap.size, 1, none⟩) (v := .int .i64 k) (by rw [← hW]; simp)
  have q2 := Dr.cell0 (w := W) (a := ⟨w.heap.size, 2, none⟩) (v := .slice A n cap) (by rw [← hW]; simp)
  clear hW
  refine Dr.plan_q (l := [_, _, _, _]) rfl (fun K hK => ?_)
  iterate 4 (go_big_quiet_step (fail))
  refine wpQuiet_nil (hK _ ?_); clear hK K
  refine Dr.plan_e rfl (by rfl) (fun K hK => ?_)
  go_wp2_with fail
  refine (week_any d k A n cap _ hm hcap).mono ?_; rintro e w1 ⟨rfl, hb1⟩
  refine hK _ _ (.of hb1) ?_; clear hK K
  refine Dr.plan_e rfl (by rfl) (fun K hK => ?_)
  go_wp2_with fail
  refine (sum_any _ _ _ l' _ Hwn.out (by omega) ((hwk.ext hbW).ext hb1) hv').mono ?_; rintro e w2 ⟨rfl, rfl⟩
  refine hK _ _ (.refl _ _) ?_; clear hK K
  refine Dr.plan_q (l := [_, _]) rfl (fun K hK => ?_)
  iterate 2 (go_big_quiet_step (fail))
  refine wpQuiet_nil (hK _ ?_); clear hK K
  refine Dr.plan_end rfl ?_
  go_wp2
  go_ret
  exact ⟨rfl, ext_trans hbW hb1⟩

theorem restless_any (d k : Int) (A : Option Addr) (n cap : Nat) (l : List Int) (w : World) (hn : l.length = n) (hm : n ≤ 1000) (hcap : n ≤ cap) (hd : Cells w A 1 encI l) :
    Calls Try.prog 101 #[.agg #[.int .i64 d, .int .i64 k, .slice A n cap]] w fun e w' => e = .returned (.bool (restB l)) ∧ Below w.heap.size w w' := by
  have hb1 := ext_alloc w (.cells #[.int .i64 d, .int .i64 k, .slice A n cap] 127)
  have hwk := weekL_cells hd hn hcap
  have hwn := weekL_len hn
  unfold restB
  rw [hn]
  clear hn hd
  by_cases h7 : 7 ≤ n
  · have hh : decide ((7 : Int) ≤ (n : Int)) = true := by simp; omega
    simp only [h7, decide_true, Bool.true_and]
    generalize weekL l = l' at *
    have Hwn := Lib.hid hwn
    clear hwn
    go_enter Try.func101, Try.ntmps101
    go_wp2_with fail
    refine (week_any d k A n cap _ hm hcap).mono ?_; rintro e w1 ⟨rfl, hb2⟩
    go_wp2_with fail
    refine (scontains_int 0 _ _ _ l' _ Hwn.out (by omega) ((hwk.ext hb1).ext hb2)).mono ?_; rintro e w2 ⟨rfl, rfl⟩
    go_wp2
    go_ret
    exact ⟨ret_congr (bool_congr (by simp)), ext_trans hb1 hb2⟩
  · simp only [h7, decide_false, Bool.false_and]
    go_enter Try.func101, Try.ntmps101
    go_wp2
    go_ret
    exact ⟨rfl, hb1⟩

def faultF (f : Nat) (d k : Int) (A : Option Addr) (n cap : Nat) : Value := .func (.func f) #[.agg #[.int .i64 d, .int .i64 k, .slice A n cap]] #[]
set_option maxHeartbeats 800000 in
theorem why_any (d k : Int) (A : Option Addr) (n cap : Nat) (l : List Int) (w : World) (hn : l.length = n) (h1 : 1 ≤ n) (hm : n ≤ 1000) (hcap : n ≤ cap) (hd : Cells w A 1 encI l) (hv : ∀ x ∈ l, 0 ≤ x ∧ x ≤ 1440) :
    Calls Try.prog 74 #[.agg #[.int .i64 d, .int .i64 k, .slice A n cap]] w fun e w' => e = .returned (.int .u8 (whyI d k l)) ∧ Below w.heap.size w w' := by
  have hb1 := ext_alloc w (.cells #[.int .i64 d, .int .i64 k, .slice A n cap] 127)
  have i0 : ∀ w, (Instr.index 157 (.agg #[faultF 99 d k A n cap, faultF 100 d k A n cap, faultF 101 d k A n cap]) (.int .i64 0)).run Try.prog w = .ok (faultF 99 d k A n cap) w := fun _ => by kernel_rfl
  have i1 : ∀ w, (Instr.index 157 (.agg #[faultF 99 d k A n cap, faultF 100 d k A n cap, faultF 101 d k A n cap]) (.int .i64 1)).run Try.prog w = .ok (faultF 100 d k A n cap) w := fun _ => by kernel_rfl
  have i2 : ∀ w, (Instr.index 157 (.agg #[faultF 99 d k A n cap, faultF 100 d k A n cap, faultF 101 d k A n cap]) (.int .i64 2)).run Try.prog w = .ok (faultF 101 d k A n cap) w := fun _ => by kernel_rfl
  have c0 := fun W hb => long_any d k A n cap l W hn h1 hm (Cells.ext hd hb)
  have c1 := fun W hb => full_any d k A n cap l W hn hm hcap (Cells.ext hd hb) hv
  have c2 := fun W hb => restless_any d k A n cap l W hn hm hcap (Cells.ext hd hb)
  unfold whyI
  unfold faultF at i0 i1 i2
  generalize longB d l = p0 at *
  generalize fullB k l = p1 at *
  generalize restB l = p2 at *
  have C0 := Lib.hid c0
  have C1 := Lib.hid c1
  have C2 := Lib.hid c2
  clear c0 c1 c2 hd hv hn
  generalize hres : (if p0 = true then (1 : Int) else if p1 = true then 2 else if p2 = true then 3 else 0) = res
  have Hres := Lib.hid hres
  clear hres
  go_enter Try.func74, Try.ntmps74
  go_wp2
  go_loopw [2, 3, 4, 12] (fun _ _ _ t wr => ∃ (j : Int), t = .int .i64 j ∧ Hid ((j = 0) ∨ (j = 1 ∧ p0 = false) ∨ (j = 2 ∧ p0 = false ∧ p1 = false) ∨ (j = 3 ∧ p0 = false ∧ p1 = false ∧ p2 = false)) ∧ Below w.heap.size w wr) (fun _ _ _ t _ => (3 - intOf t).toNat)
  case atStart => exact ⟨0, rfl, Lib.hid (.inl rfl), hb1⟩
  case round =>
    obtain ⟨j, rfl, Hj, hb⟩ := hrel
    rcases Hj.out with rfl | ⟨rfl, rfl⟩ | ⟨rfl, rfl, rfl⟩ | ⟨rfl, rfl, rfl, rfl⟩
    · clear Hj
      cases p0
      · go_wp2_with fail
        refine (C0.out _ hb).mono ?_; rintro e w1 ⟨rfl, hb2⟩
        go_wp2
        go_roundw
        case rel => exact ⟨1, rfl, Lib.hid (by simp), ext_trans hb hb2⟩
        case measure => simp [intOf]
      · go_wp2_with fail
        refine (C0.out _ hb).mono ?_; rintro e w1 ⟨rfl, hb2⟩
        go_wp2
        go_ret
        exact ⟨ret_congr (int_congr (by rw [← Hres.out]; rfl)), ext_trans hb hb2⟩
    · clear Hj
      cases p1
      · go_wp2_with fail
        refine (C1.out _ hb).mono ?_; rintro e w1 ⟨rfl, hb2⟩
        go_wp2
        go_roundw
        case rel => exact ⟨2, rfl, Lib.hid (by simp), ext_trans hb hb2⟩
        case measure => simp [intOf]
      · go_wp2_with fail
        refine (C1.out _ hb).mono ?_; rintro e w1 ⟨rfl, hb2⟩
        go_wp2
        go_ret
        exact ⟨ret_congr (int_congr (by rw [← Hres.out]; rfl)), ext_trans hb hb2⟩
    · clear Hj
      cases p2
      · go_wp2_with fail
        refine (C2.out _ hb).mono ?_; rintro e w1 ⟨rfl, hb2⟩
        go_wp2
        go_roundw
        case rel => exact ⟨3, rfl, Lib.hid (by simp), ext_trans hb hb2⟩
        case measure => simp [intOf]
      · go_wp2_with fail
        refine (C2.out _ hb).mono ?_; rintro e w1 ⟨rfl, hb2⟩
        go_wp2
        go_ret
        exact ⟨ret_congr (int_congr (by rw [← Hres.out]; rfl)), ext_trans hb hb2⟩
    · clear Hj
      go_wp2
      go_ret
      exact ⟨ret_congr (int_congr (by rw [← Hres.out]; rfl)), hb⟩

theorem day_ok (l : List Int) (w : World) : PredB Try.prog 73 #[] (Value.int .i64) (fun x => decide (0 ≤ x ∧ x ≤ 1440)) w l := by
  intro W x hx hb
  show Calls Try.prog 73 #[.int .i64 x] W fun e w' => e = .returned (.bool (decide (0 ≤ x ∧ x ≤ 1440))) ∧ Below W.heap.size W w'
  have Hc := Lib.hid (within_any x 0 1440 W)
  generalize decide (0 ≤ x ∧ x ≤ 1440) = q at *
  go_enter Try.func73, Try.ntmps73
  go_wp2_with fail
  refine Hc.out.mono ?_; rintro e w1 ⟨rfl, rfl⟩
  go_wp2
  go_ret
  exact ⟨rfl, Below.refl _ _⟩
end Go.Proofs.Ytopfhinnamhoiaa

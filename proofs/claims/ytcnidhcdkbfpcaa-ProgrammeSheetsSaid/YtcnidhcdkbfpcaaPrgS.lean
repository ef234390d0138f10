/- Walk: slices.Sort at at most 12 ints; is a list an order? (Printed by mk_prgs.py.) -/
import Derived.BigRegion
import Derived.Deep.CutBlock
import Derived.Lib.Strings
import Derived.Lib.Slices
import Derived.Lib.Small
import Derived.Lib.Walk
import Derived.Lib.BitFns
import Derived.Test.YtcnidhcdkbfpcaaSortP
import Derived.Test.YtcnidhcdkbfpcaaPrgD
namespace Go.Proofs.Ytcnidhcdkbfpcaa
open Go.RowKit Go.Bs Go.Pg Go.Pl Go.Sort
theorem nan_any (x : Int) (w : World) : Calls Try.prog 129 #[.int .i64 x] w fun e w' => e = .returned (.bool false) ∧ w = w' := by
  go_enter Try.func129, Try.ntmps129
  go_wp2
  go_ret
  exact ⟨by simp, rfl⟩
theorem less_any (x y : Int) (w : World) : Calls Try.prog 119 #[.int .i64 x, .int .i64 y] w fun e w' => e = .returned (.bool (decide (x < y))) ∧ w = w' := by
  have C := Lib.hid (fun W => nan_any x W)
  go_enter Try.func119, Try.ntmps119
  go_wp2_with fail
  refine (C.out _).mono ?_; rintro e w1 ⟨rfl, rfl⟩
  go_wp2
  go_ret
  exact ⟨rfl, rfl⟩
set_option maxRecDepth 100000 in
set_option maxHeartbeats 2000000 in
theorem ins_any (B T n cap : Nat) (l : List Int) (sp : List Value) (w : World) (hn : l.length = n) (hm : n ≤ 1000000) (hB : Blk w B T (l.map (Value.int .i64) ++ sp)) :
    Calls Try.prog 113 #[.slice (some ⟨B, 0, none⟩) n cap, .int .i64 0, .int .i64 n] w fun e w' => e = .returned (.tuple #[]) ∧ Dr.Bel [B] w w' ∧ Blk w' B T ((sortL (fun a b => a - b) l).map (Value.int .i64) ++ sp) := by
  have Hn := Lib.hid hn
  clear hn
  go_enter Try.func113, Try.ntmps113
  go_wp2
  go_loopw [6] (fun x wr => ∃ i : Nat, x = .int .i64 i ∧ 1 ≤ i ∧ (i ≤ n ∨ i = 1) ∧ Dr.Bel [B] w wr ∧ Blk wr B T ((sortL (fun a b => a - b) (l.take i) ++ l.drop i).map (Value.int .i64) ++ sp)) (fun x _ => n + 1 - (intOf x).toNat)
  case atStart =>
    refine ⟨1, rfl, Nat.le_refl _, .inr rfl, Dr.Bel.refl _ _, ?_⟩
    have : sortL (fun a b => a - b) (l.take 1) ++ l.drop 1 = l := by
      cases l with
      | nil => rfl
      | cons x l => rfl
    rw [this]; exact hB
  case round =>
    clear hB
    obtain ⟨i, rfl, hi1, hi2, hb, hB⟩ := hrel
    by_cases hlt : i < n
    · have hlt' : (i : Int) < (n : Int) := by omega
      have hil : i < l.length := by rw [Hn.out]; exact hlt
      have hS : (sortL (fun a b => a - b) (l.take i)).length = i := by rw [sortL_len, List.length_take]; omega
      have hmem : ∀ y ∈ sortL (fun a b => a - b) (l.take i), y ∈ l := fun y hy => List.mem_of_mem_take ((sortL_perm _ _).mem_iff.1 hy)
      have hnext : sortL (fun a b => a - b) (l.take (i + 1)) = ins1 (fun a b => a - b) (sortL (fun a b => a - b) (l.take i)) l[i] := by rw [List.take_succ_eq_append_getElem hil, sortL_snoc]
      have hxm : l[i] ∈ l := List.getElem_mem hil
      rw [List.drop_eq_getElem_cons hil] at hB
      generalize hSS : sortL (fun a b => a - b) (l.take i) = S at *
      generalize hx : l[i] = x at *
      have HS := Lib.hid hS
      have Hmem := Lib.hid hmem
      have Hnext := Lib.hid hnext
      clear hS hmem hnext hSS hx
      go_upto_region 3 with fail
      go_wp2
      go_loopw [7] (fun u wr => ∃ (T1 D : List Int) (j : Nat), u = .int .i64 j ∧ T1.length = j ∧ T1.length + D.length = i ∧ Hid ((insR (fun s => decide (x - s < 0)) x T1.reverse).reverse ++ D = ins1 (fun a b => a - b) S x) ∧ Hid (∀ y ∈ T1, y ∈ l) ∧ Dr.Bel [B] w wr ∧ Blk wr B T ((T1 ++ x :: (D ++ l.drop (i + 1))).map (Value.int .i64) ++ sp)) (fun u _ => (intOf u).toNat)
      case atStart => exact ⟨S, [], i, rfl, HS.out, by simp [HS.out], Lib.hid (by unfold ins1; simp), Lib.hid Hmem.out, hb, hB⟩
      case round =>
        clear hb hB
        obtain ⟨T1, D, j, rfl, hT, hTD, Hins, Hm, hb, hB⟩ := hrel
        have hexit : (T1 = [] ∨ ∃ T' s, T1 = T' ++ [s] ∧ ¬ x - s < 0) → T1 ++ x :: D = ins1 (fun a b => a - b) S x := fun h => by
          rw [← Hins.out]
          rcases h with rfl | ⟨T', s, rfl, hs⟩
          · simp [insR]
          · simp [insR, hs]
        have Hexit := Lib.hid hexit
        clear hexit
        have hcc : T1 = [] ∨ ∃ T' s, T1 = T' ++ [s] := by
          rcases List.eq_nil_or_concat T1 with h0 | ⟨T', s, h0⟩
          · exact .inl h0
          · exact .inr ⟨T', s, by rw [h0, List.concat_eq_append]⟩
        rcases hcc with h0 | ⟨T', s, h0⟩
        · obtain rfl : j = 0 := by rw [← hT, h0]; rfl
          have He := Lib.hid (Hexit.out (.inl h0))
          clear h0
          go_upto_region 4 with fail
          refine Dr.wp_region_plan 15 [] (.q [0, 1, 2, 3, 4, 5, 6, 7, 8, 9, 10, 11, 12] (.e1 13 (.q [14] .done))) (by kernel_rfl) (by kernel_rfl) ?_
          have hb1 : Dr.Bel [B] w wr.drew := hb.trans (.of (ext_drew _))
          have hB1 := hB.drew
          clear hb hB
          generalize World.drew _ = W at *
          refine Dr.plan_q (l := [_, _, _, _, _, _, _, _, _, _, _, _, _]) rfl (fun K hK => ?_)
          iterate 13 (go_big_quiet_step (fail))
          refine wpQuiet_nil (hK _ ?_); clear hK K
          refine Dr.plan_e_skip rfl (by rfl) ?_; go_frame
          refine Dr.plan_q (l := [_]) rfl (fun K hK => ?_)
          iterate 1 (go_big_quiet_step (fail))
          refine wpQuiet_nil (hK _ ?_); clear hK K
          refine Dr.plan_end rfl ?_
          go_wp2
          go_roundw
          case rel =>
            refine ⟨i + 1, by go_num, by omega, .inl (by omega), hb1, ?_⟩
            rw [Hnext.out, ← He.out, List.append_assoc]
            exact hB1
          case measure => simp [intOf]; omega
        · obtain ⟨jp, rfl⟩ : ∃ jp, j = jp + 1 := ⟨j - 1, by rw [← hT, h0]; simp⟩
          have hT' : T'.length = jp := by rw [h0] at hT; simpa using hT
          subst h0
          have hsm := Hm.out s (by simp)
          have hg0 : ((T' ++ [s] ++ x :: (D ++ l.drop (i + 1))).map (Value.int .i64) ++ sp)[jp + 1]? = some (.int .i64 x) := by
            rw [← hT']; simp
          have hg1 : ((T' ++ [s] ++ x :: (D ++ l.drop (i + 1))).map (Value.int .i64) ++ sp)[jp]? = some (.int .i64 s) := by
            rw [← hT']; simp
          have c0 := hB.cell hg0
          have c1 := hB.cell hg1
          have f0 := hB.free (jp + 1)
          have f1 := hB.free jp
          have hj1 : (jp : Int) + 1 < (n : Int) := by
            have : T'.length + 1 + D.length = i := by simpa using hTD
            omega
          have hj2 : (jp : Int) < (n : Int) := by omega
          have hj3 : (0 : Int) < (jp : Int) + 1 := by omega
          have hj4 : (0 : Int) ≤ (jp : Int) + 1 := by omega
          have hj5 : (0 : Int) ≤ (jp : Int) := by omega
          have Hc2 := Lib.hid (fun W => less_any x s W)
          have hset := set_swap T' (D ++ l.drop (i + 1)) s x
          rw [hT'] at hset
          have Hset := Lib.hid hset
          have HT' := Lib.hid hT'
          have HTD := Lib.hid hTD
          clear hg0 hg1 hset hT hT' hTD
          by_cases hlv : x - s < 0
          · have Hins2 : Hid ((insR (fun s => decide (x - s < 0)) x T'.reverse).reverse ++ (s :: D) = ins1 (fun a b => a - b) S x) := Lib.hid (by
              rw [← Hins.out]; simp [insR, hlv])
            rw [show decide (x < s) = true by simp; omega] at Hc2
            go_upto_region 4 with fail
            refine Dr.wp_region_plan 15 [] (.q [0, 1, 2, 3, 4, 5, 6, 7, 8, 9, 10, 11, 12] (.e1 13 (.q [14] .done))) (by kernel_rfl) (by kernel_rfl) ?_
            have hb1 : Dr.Bel [B] w wr.drew := hb.trans (.of (ext_drew _))
            have hB1 := hB.drew
            have q0 := Dr.cell0 (cell_ext c0 (ext_drew _))
            have q1 := Dr.cell0 (cell_ext c1 (ext_drew _))
            clear hb hB c0 c1 f0 f1
            generalize World.drew _ = W at *
            refine Dr.plan_q (l := [_, _, _, _, _, _, _, _, _, _, _, _, _]) rfl (fun K hK => ?_)
            iterate 13 (go_big_quiet_step (fail))
            refine wpQuiet_nil (hK _ ?_); clear hK K
            refine Dr.plan_e rfl (by rfl) (fun K hK => ?_)
            go_wp2_with fail
            refine (Hc2.out W).mono ?_; rintro e w1 ⟨rfl, rfl⟩
            refine hK _ _ (Dr.Bel.refl _ _) ?_; clear hK K
            have hb3 := hb1
            have hB3 := hB1
            clear hb1 hB1 q0 q1
            refine Dr.plan_q (l := [_]) rfl (fun K hK => ?_)
            iterate 1 (go_big_quiet_step (fail))
            refine wpQuiet_nil (hK _ ?_); clear hK K
            refine Dr.plan_end rfl ?_
            have c0 := hB3.cell (i := jp + 1) (v := .int .i64 x) (by rw [← HT'.out]; simp)
            have c1 := hB3.cell (i := jp) (v := .int .i64 s) (by rw [← HT'.out]; simp)
            go_upto_region 6 with fail
            have f0 := hB3.free (jp + 1)
            have f1 := hB3.free jp
            have hB4 := (hB3.set (jp + 1) (.int .i64 s)).set jp (.int .i64 x)
            rw [List.set_append_left _ _ (by simp [← HT'.out]), List.set_append_left _ _ (by simp [← HT'.out])] at hB4
            rw [← List.map_set, ← List.map_set, show T' ++ [s] ++ x :: (D ++ l.drop (i + 1)) = T' ++ s :: x :: (D ++ l.drop (i + 1)) by simp, Hset.out] at hB4
            have HB4 := Lib.hid hB4
            clear hB4 hB3
            go_region
            all_goals go_wp2
            go_roundw
            case rel =>
              refine ⟨T', s :: D, jp, by go_num, HT'.out, ?_, Hins2, Lib.hid (fun y hy => Hm.out y (by simp [hy])), ?_, ?_⟩
              · have := HTD.out
                simp at this ⊢
                omega
              · exact ((hb3.trans (Dr.Bel.store (by simp) _)).trans (Dr.Bel.store (by simp) _)).trans (.of (ext_drew _))
              · exact HB4.out.drew
            case measure => simp [intOf]
          · have He := Lib.hid (Hexit.out (.inr ⟨T', s, rfl, hlv⟩))
            rw [show decide (x < s) = false by simp; omega] at Hc2
            go_upto_region 4 with fail
            refine Dr.wp_region_plan 15 [] (.q [0, 1, 2, 3, 4, 5, 6, 7, 8, 9, 10, 11, 12] (.e1 13 (.q [14] .done))) (by kernel_rfl) (by kernel_rfl) ?_
            have hb1 : Dr.Bel [B] w wr.drew := hb.trans (.of (ext_drew _))
            have hB1 := hB.drew
            have q0 := Dr.cell0 (cell_ext c0 (ext_drew _))
            have q1 := Dr.cell0 (cell_ext c1 (ext_drew _))
            clear hb hB c0 c1 f0 f1
            generalize World.drew _ = W at *
            refine Dr.plan_q (l := [_, _, _, _, _, _, _, _, _, _, _, _, _]) rfl (fun K hK => ?_)
            iterate 13 (go_big_quiet_step (fail))
            refine wpQuiet_nil (hK _ ?_); clear hK K
            refine Dr.plan_e rfl (by rfl) (fun K hK => ?_)
            go_wp2_with fail
            refine (Hc2.out W).mono ?_; rintro e w1 ⟨rfl, rfl⟩
            refine hK _ _ (Dr.Bel.refl _ _) ?_; clear hK K
            have hb3 := hb1
            have hB3 := hB1
            clear hb1 hB1 q0 q1
            refine Dr.plan_q (l := [_]) rfl (fun K hK => ?_)
            iterate 1 (go_big_quiet_step (fail))
            refine wpQuiet_nil (hK _ ?_); clear hK K
            refine Dr.plan_end rfl ?_
            go_wp2
            go_roundw
            case rel =>
              refine ⟨i + 1, by go_num, by omega, .inl (by omega), hb3, ?_⟩
              rw [Hnext.out, ← He.out, List.append_assoc]
              exact hB3
            case measure => simp [intOf]; omega
    · have hall : sortL (fun a b => a - b) (l.take i) ++ l.drop i = sortL (fun a b => a - b) l := by
        rcases hi2 with h | h
        · obtain rfl : i = n := by omega
          rw [← Hn.out, List.take_length, List.drop_length, List.append_nil]
        · subst h
          have h0 : l.length ≤ 1 := by rw [Hn.out]; omega
          rw [List.take_of_length_le h0, List.drop_eq_nil_of_le h0, List.append_nil]
      rw [hall] at hB
      have Hall := Lib.hid hall
      clear hall
      go_wp2
      go_end0
      exact ⟨rfl, hb, hB⟩


set_option maxHeartbeats 4000000 in
set_option maxRecDepth 100000 in
theorem len64_any (x : Int) (h0 : 0 ≤ x) (h1 : x ≤ 255) (w : World) : Calls Try.prog 123 #[.int .u64 x] w fun e w' => (∃ v : Int, e = .returned (.int .i64 v)) ∧ w = w' := by
  go_enter Try.func123, Try.ntmps123
  go_wp2
  all_goals first | (go_ret; exact ⟨⟨_, rfl⟩, rfl⟩) | (exfalso; have hs := Lib.len8tab_size; omega) | trace_state
theorem len_any (n : Nat) (hn : n ≤ 12) (w : World) : Calls Try.prog 110 #[.int .u64 n] w fun e w' => (∃ v : Int, e = .returned (.int .i64 v)) ∧ w = w' := by
  have C := Lib.hid (len64_any n (by omega) (by omega) w)
  go_enter Try.func110, Try.ntmps110
  go_wp2_with fail
  refine C.out.mono ?_; rintro e w1 ⟨⟨v, rfl⟩, rfl⟩
  go_wp2
  go_ret
  exact ⟨⟨_, rfl⟩, rfl⟩
theorem pdq_any (B T n cap : Nat) (l : List Int) (sp : List Value) (v : Int) (w : World) (hn : l.length = n) (hm : n ≤ 12) (hB : Blk w B T (l.map (Value.int .i64) ++ sp)) :
    Calls Try.prog 109 #[.slice (some ⟨B, 0, none⟩) n cap, .int .i64 0, .int .i64 n, .int .i64 v] w fun e w' => e = .returned (.tuple #[]) ∧ Dr.Bel [B] w w' ∧ Blk w' B T ((sortL (fun a b => a - b) l).map (Value.int .i64) ++ sp) := by
  have C := Lib.hid (ins_any B T n cap l sp w hn (by omega) hB)
  clear hB hn
  go_enter Try.func109, Try.ntmps109
  go_wp2
  go_loopw [1, 2, 8, 9] (fun a b x y wr => a = .int .i64 0 ∧ b = .int .i64 n ∧ x = .bool true ∧ y = .bool true ∧ w = wr) (fun _ _ x _ _ => 0)
  case atStart => exact ⟨rfl, rfl, rfl, rfl, rfl⟩
  case round =>
    obtain ⟨rfl, rfl, rfl, rfl, rfl⟩ := hrel
    go_wp2_with fail
    refine C.out.mono ?_; rintro e w1 ⟨rfl, hb, hB⟩
    go_wp2
    refine bodyPost_ret (results_none rfl _ _ _) rfl ?_
    exact ⟨rfl, hb, hB⟩
theorem sort_any (B T n cap : Nat) (l : List Int) (sp : List Value) (w : World) (hn : l.length = n) (hm : n ≤ 12) (hB : Blk w B T (l.map (Value.int .i64) ++ sp)) :
    Calls Try.prog 98 #[.slice (some ⟨B, 0, none⟩) n cap] w fun e w' => e = .returned (.tuple #[]) ∧ Dr.Bel [B] w w' ∧ Blk w' B T ((sortL (fun a b => a - b) l).map (Value.int .i64) ++ sp) := by
  have C := Lib.hid (fun v => pdq_any B T n cap l sp v w hn hm hB)
  have CL := Lib.hid (len_any n hm w)
  clear hB hn
  go_enter Try.func98, Try.ntmps98
  go_wp2_with fail
  refine CL.out.mono ?_; rintro e w1 ⟨⟨v, rfl⟩, rfl⟩
  go_wp2_with fail
  refine (C.out v).mono ?_; rintro e w1 ⟨rfl, hb, hB⟩
  go_wp2
  go_end0
  exact ⟨rfl, hb, hB⟩
/-- an empty slice that is nil -/
theorem sort_nil (cap : Nat) (w : World) : Calls Try.prog 98 #[.slice none 0 cap] w fun e w' => e = .returned (.tuple #[]) ∧ w = w' := by
  have C0 : Hid (∀ v : Int, Calls Try.prog 109 #[.slice none 0 cap, .int .i64 0, .int .i64 0, .int .i64 v] w fun e w' => e = .returned (.tuple #[]) ∧ w = w') := Lib.hid (fun v => by
    have C1 : Hid (Calls Try.prog 113 #[.slice none 0 cap, .int .i64 0, .int .i64 0] w fun e w' => e = .returned (.tuple #[]) ∧ w = w') := Lib.hid (by
      go_enter Try.func113, Try.ntmps113
      go_wp2
      go_loopw [6] (fun x wr => x = .int .i64 1 ∧ w = wr) (fun x _ => 0)
      case atStart => exact ⟨rfl, rfl⟩
      case round =>
        obtain ⟨rfl, rfl⟩ := hrel
        go_wp2
        go_end0
        exact ⟨rfl, rfl⟩)
    go_enter Try.func109, Try.ntmps109
    go_wp2
    go_loopw [1, 2, 8, 9] (fun a b x y wr => a = .int .i64 0 ∧ b = .int .i64 0 ∧ x = .bool true ∧ y = .bool true ∧ w = wr) (fun _ _ x _ _ => 0)
    case atStart => exact ⟨rfl, rfl, rfl, rfl, rfl⟩
    case round =>
      obtain ⟨rfl, rfl, rfl, rfl, rfl⟩ := hrel
      go_wp2_with fail
      refine C1.out.mono ?_; rintro e w1 ⟨rfl, rfl⟩
      go_wp2
      refine bodyPost_ret (results_none rfl _ _ _) rfl ?_
      exact ⟨rfl, rfl⟩)
  have CL := Lib.hid (len_any 0 (by omega) w)
  rw [show ((0 : Nat) : Int) = 0 from rfl] at CL
  go_enter Try.func98, Try.ntmps98
  go_wp2_with fail
  refine CL.out.mono ?_; rintro e w1 ⟨⟨v, rfl⟩, rfl⟩
  go_wp2_with fail
  refine (C0.out v).mono ?_; rintro e w1 ⟨rfl, rfl⟩
  go_wp2
  go_end0
  exact ⟨rfl, rfl⟩
end Go.Proofs.Ytcnidhcdkbfpcaa

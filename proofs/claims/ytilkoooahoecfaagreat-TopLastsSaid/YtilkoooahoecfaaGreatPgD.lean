/- Walks: sort, ordered, asked, fault, check, Change. -/
import Derived.BigRegion
import Derived.Deep.CutBlock
import Derived.Lib.Strings
import Derived.Lib.Slices
import Derived.Lib.Small
import Derived.Lib.Walk
import Derived.Lib.BitFns
import Derived.Test.YtilkoooahoecfaaGreatSortP
import Derived.Test.YtilkoooahoecfaaGreatPgB
import Derived.Test.YtilkoooahoecfaaGreatPrgI
import Derived.Test.YtilkoooahoecfaaGreatPgA
/- Walk: slices.Sort at at most 12 ints; is a list an order? (Printed by mk_prgs.py.) -/
namespace Go.Proofs.YtilkoooahoecfaaGreat
open Go.RowKit Go.Bs Go.Pg Go.Pl Go.Sort
theorem nan_any (x : Int) (w : World) : Calls Tryz.prog 120 #[.int .i64 x] w fun e w' => e = .returned (.bool false) ∧ w = w' := by
  go_enter Tryz.func120, Tryz.ntmps120
  go_wp2
  go_ret
  exact ⟨by simp, rfl⟩
theorem less_any (x y : Int) (w : World) : Calls Tryz.prog 109 #[.int .i64 x, .int .i64 y] w fun e w' => e = .returned (.bool (decide (x < y))) ∧ w = w' := by
  have C := Lib.hid (fun W => nan_any x W)
  go_enter Tryz.func109, Tryz.ntmps109
  go_wp2_with fail
  refine (C.out _).mono ?_; rintro e w1 ⟨rfl, rfl⟩
  go_wp2
  go_ret
  exact ⟨rfl, rfl⟩
set_option maxRecDepth 100000 in
set_option maxHeartbeats 2000000 in
theorem ins_any (B T n cap : Nat) (l : List Int) (sp : List Value) (w : World) (hn : l.length = n) (hm : n ≤ 1000000) (hB : Blk w B T (l.map (Value.int .i64) ++ sp)) :
    Calls Tryz.prog 103 #[.slice (some ⟨B, 0, none⟩) n cap, .int .i64 0, .int .i64 n] w fun e w' => e = .returned (.tuple #[]) ∧ Dr.Bel [B] w w' ∧ Blk w' B T ((sortL (fun a b => a - b) l).map (Value.int .i64) ++ sp) := by
  have Hn := Lib.hid hn
  clear hn
  go_enter Tryz.func103, Tryz.ntmps103
  go_wp2
  go_loopw [6] (fun x wr => ∃ i : Nat, x = .int .i64 i ∧ 1 ≤ i ∧ (i ≤ n ∨ i = 1) ∧ Dr.Bel [B] w wr ∧ Blk wr B T ((sortL (fun a b => a - b) (l.take i) ++ l.drop i).map (Value.int .i64) ++ sp)) (fun x _ => n + 1 - (intOf x).toNat)
  case atStart =>
    refine ⟨1, rfl, Nat.le_refl _, .inr rfl, Dr.Bel.refl _ _, ?_⟩
    have : sortL (fun a b => a - b) (l.take 1) ++ l.drop 1 = l := by
      cases l with
      | nil => rfl
      | cons x l => rfl
    rw [this]; exact hB
  case round =>
    clear hB
    obtain ⟨i, rfl, hi1, hi2, hb, hB⟩ := hrel
    by_cases hlt : i < n
    · have hlt' : (i : Int) < (n : Int) := by omega
      have hil : i < l.length := by rw [Hn.out]; exact hlt
      have hS : (sortL (fun a b => a - b) (l.take i)).length = i := by rw [sortL_len, List.length_take]; omega
      have hmem : ∀ y ∈ sortL (fun a b => a - b) (l.take i), y ∈ l := fun y hy => List.mem_of_mem_take ((sortL_perm _ _).mem_iff.1 hy)
      have hnext : sortL (fun a b => a - b) (l.take (i + 1)) = ins1 (fun a b => a - b) (sortL (fun a b => a - b) (l.take i)) l[i] := by rw [List.take_succ_eq_append_getElem hil, sortL_snoc]
      have hxm : l[i] ∈ l := List.getElem_mem hil
      rw [List.drop_eq_getElem_cons hil] at hB
      generalize hSS : sortL (fun a b => a - b) (l.take i) = S at *
      generalize hx : l[i] = x at *
      have HS := Lib.hid hS
      have Hmem := Lib.hid hmem
      have Hnext := Lib.hid hnext
      clear hS hmem hnext hSS hx
      go_upto_region 3 with fail
      go_wp2
      go_loopw [7] (fun u wr => ∃ (T1 D : List Int) (j : Nat), u = .int .i64 j ∧ T1.length = j ∧ T1.length + D.length = i ∧ Hid ((insR (fun s => decide (x - s < 0)) x T1.reverse).reverse ++ D = ins1 (fun a b => a - b) S x) ∧ Hid (∀ y ∈ T1, y ∈ l) ∧ Dr.Bel [B] w wr ∧ Blk wr B T ((T1 ++ x :: (D ++ l.drop (i + 1))).map (Value.int .i64) ++ sp)) (fun u _ => (intOf u).toNat)
      case atStart => exact ⟨S, [], i, rfl, HS.out, by simp [HS.out], Lib.hid (by unfold ins1; simp), Lib.hid Hmem.out, hb, hB⟩
      case round =>
        clear hb hB
        obtain ⟨T1, D, j, rfl, hT, hTD, Hins, Hm, hb, hB⟩ := hrel
        have hexit : (T1 = [] ∨ ∃ T' s, T1 = T' ++ [s] ∧ ¬ x - s < 0) → T1 ++ x :: D = ins1 (fun a b => a - b) S x := fun h => by
          rw [← Hins.out]
          rcases h with rfl | ⟨T', s, rfl, hs⟩
          · simp [insR]
          · simp [insR, hs]
        have Hexit := Lib.hid hexit
        clear hexit
        have hcc : T1 = [] ∨ ∃ T' s, T1 = T' ++ [s] := by
          rcases List.eq_nil_or_concat T1 with h0 | ⟨T', s, h0⟩
          · exact .inl h0
          · exact .inr ⟨T', s, by rw [h0, List.concat_eq_append]⟩
        rcases hcc with h0 | ⟨T', s, h0⟩
        · obtain rfl : j = 0 := by rw [← hT, h0]; rfl
          have He := Lib.hid (Hexit.out (.inl h0))
          clear h0
          go_upto_region 4 with fail
          refine Dr.wp_region_plan 15 [] (.q [0, 1, 2, 3, 4, 5, 6, 7, 8, 9, 10, 11, 12] (.e1 13 (.q [14] .done))) (by kernel_rfl) (by kernel_rfl) ?_
          have hb1 : Dr.Bel [B] w wr.drew := hb.trans (.of (ext_drew _))
          have hB1 := hB.drew
          clear hb hB
          generalize World.drew _ = W at *
          refine Dr.plan_q (l := [_, _, _, _, _, _, _, _, _, _, _, _, _]) rfl (fun K hK => ?_)
          iterate 13 (go_big_quiet_step (fail))
          refine wpQuiet_nil (hK _ ?_); clear hK K
          refine Dr.plan_e_skip rfl (by rfl) ?_; go_frame
          refine Dr.plan_q (l := [_]) rfl (fun K hK => ?_)
          iterate 1 (go_big_quiet_step (fail))
          refine wpQuiet_nil (hK _ ?_); clear hK K
          refine Dr.plan_end rfl ?_
          go_wp2
          go_roundw
          case rel =>
            refine ⟨i + 1, by go_num, by omega, .inl (by omega), hb1, ?_⟩
            rw [Hnext.out, ← He.out, List.append_assoc]
            exact hB1
          case measure => simp [intOf]; omega
        · obtain ⟨jp, rfl⟩ : ∃ jp, j = jp + 1 := ⟨j - 1, by rw [← hT, h0]; simp⟩
          have hT' : T'.length = jp := by rw [h0] at hT; simpa using hT
          subst h0
          have hsm := Hm.out s (by simp)
          have hg0 : ((T' ++ [s] ++ x :: (D ++ l.drop (i + 1))).map (Value.int .i64) ++ sp)[jp + 1]? = some (.int .i64 x) := by
            rw [← hT']; simp
          have hg1 : ((T' ++ [s] ++ x :: (D ++ l.drop (i + 1))).map (Value.int .i64) ++ sp)[jp]? = some (.int .i64 s) := by
            rw [← hT']; simp
          have c0 := hB.cell hg0
          have c1 := hB.cell hg1
          have f0 := hB.free (jp + 1)
          have f1 := hB.free jp
          have hj1 : (jp : Int) + 1 < (n : Int) := by
            have : T'.length + 1 + D.length = i := by simpa using hTD
            omega
          have hj2 : (jp : Int) < (n : Int) := by omega
          have hj3 : (0 : Int) < (jp : Int) + 1 := by omega
          have hj4 : (0 : Int) ≤ (jp : Int) + 1 := by omega
          have hj5 : (0 : Int) ≤ (jp : Int) := by omega
          have Hc2 := Lib.hid (fun W => less_any x s W)
          have hset := set_swap T' (D ++ l.drop (i + 1)) s x
          rw [hT'] at hset
          have Hset := Lib.hid hset
          have HT' := Lib.hid hT'
          have HTD := Lib.hid hTD
          clear hg0 hg1 hset hT hT' hTD
          by_cases hlv : x - s < 0
          · have Hins2 : Hid ((insR (fun s => decide (x - s < 0)) x T'.reverse).reverse ++ (s :: D) = ins1 (fun a b => a - b) S x) := Lib.hid (by
              rw [← Hins.out]; simp [insR, hlv])
            rw [show decide (x < s) = true by simp; omega] at Hc2
            go_upto_region 4 with fail
            refine Dr.wp_region_plan 15 [] (.q [0, 1, 2, 3, 4, 5, 6, 7, 8, 9, 10, 11, 12] (.e1 13 (.q [14] .done))) (by kernel_rfl) (by kernel_rfl) ?_
            have hb1 : Dr.Bel [B] w wr.drew := hb.trans (.of (ext_drew _))
            have hB1 := hB.drew
            have q0 := Dr.cell0 (cell_ext c0 (ext_drew _))
            have q1 := Dr.cell0 (cell_ext c1 (ext_drew _))
            clear hb hB c0 c1 f0 f1
            generalize World.drew _ = W at *
            refine Dr.plan_q (l := [_, _, _, _, _, _, _, _, _, _, _, _, _]) rfl (fun K hK => ?_)
            iterate 13 (go_big_quiet_step (fail))
            refine wpQuiet_nil (hK _ ?_); clear hK K
            refine Dr.plan_e rfl (by rfl) (fun K hK => ?_)
            go_wp2_with fail
            refine (Hc2.out W).mono ?_; rintro e w1 ⟨rfl, rfl⟩
            refine hK _ _ (Dr.Bel.refl _ _) ?_; clear hK K
            have hb3 := hb1
            have hB3 := hB1
            clear hb1 hB1 q0 q1
            refine Dr.plan_q (l := [_]) rfl (fun K hK => ?_)
            iterate 1 (go_big_quiet_step (fail))
            refine wpQuiet_nil (hK _ ?_); clear hK K
            refine Dr.plan_end rfl ?_
            have c0 := hB3.cell (i := jp + 1) (v := .int .i64 x) (by rw [← HT'.out]; simp)
            have c1 := hB3.cell (i := jp) (v := .int .i64 s) (by rw [← HT'.out]; simp)
            go_upto_region 6 with fail
            have f0 := hB3.free (jp + 1)
            have f1 := hB3.free jp
            have hB4 := (hB3.set (jp + 1) (.int .i64 s)).set jp (.int .i64 x)
            rw [List.set_append_left _ _ (by simp [← HT'.out]), List.set_append_left _ _ (by simp [← HT'.out])] at hB4
            rw [← List.map_set, ← List.map_set, show T' ++ [s] ++ x :: (D ++ l.drop (i + 1)) = T' ++ s :: x :: (D ++ l.drop (i + 1)) by simp, Hset.out] at hB4
            have HB4 := Lib.hid hB4
            clear hB4 hB3
            go_region
            all_goals go_wp2
            go_roundw
            case rel =>
              refine ⟨T', s :: D, jp, by go_num, HT'.out, ?_, Hins2, Lib.hid (fun y hy => Hm.out y (by simp [hy])), ?_, ?_⟩
              · have := HTD.out
                simp at this ⊢
                omega
              · exact ((hb3.trans (Dr.Bel.store (by simp) _)).trans (Dr.Bel.store (by simp) _)).trans (.of (ext_drew _))
              · exact HB4.out.drew
            case measure => simp [intOf]
          · have He := Lib.hid (Hexit.out (.inr ⟨T', s, rfl, hlv⟩))
            rw [show decide (x < s) = false by simp; omega] at Hc2
            go_upto_region 4 with fail
            refine Dr.wp_region_plan 15 [] (.q [0, 1, 2, 3, 4, 5, 6, 7, 8, 9, 10, 11, 12] (.e1 13 (.q [14] .done))) (by kernel_rfl) (by kernel_rfl) ?_
            have hb1 : Dr.Bel [B] w wr.drew := hb.trans (.of (ext_drew _))
            have hB1 := hB.drew
            have q0 := Dr.cell0 (cell_ext c0 (ext_drew _))
            have q1 := Dr.cell0 (cell_ext c1 (ext_drew _))
            clear hb hB c0 c1 f0 f1
            generalize World.drew _ = W at *
            refine Dr.plan_q (l := [_, _, _, _, _, _, _, _, _, _, _, _, _]) rfl (fun K hK => ?_)
            iterate 13 (go_big_quiet_step (fail))
            refine wpQuiet_nil (hK _ ?_); clear hK K
            refine Dr.plan_e rfl (by rfl) (fun K hK => ?_)
            go_wp2_with fail
            refine (Hc2.out W).mono ?_; rintro e w1 ⟨rfl, rfl⟩
            refine hK _ _ (Dr.Bel.refl _ _) ?_; clear hK K
            have hb3 := hb1
            have hB3 := hB1
            clear hb1 hB1 q0 q1
            refine Dr.plan_q (l := [_]) rfl (fun K hK => ?_)
            iterate 1 (go_big_quiet_step (fail))
            refine wpQuiet_nil (hK _ ?_); clear hK K
            refine Dr.plan_end rfl ?_
            go_wp2
            go_roundw
            case rel =>
              refine ⟨i + 1, by go_num, by omega, .inl (by omega), hb3, ?_⟩
              rw [Hnext.out, ← He.out, List.append_assoc]
              exact hB3
            case measure => simp [intOf]; omega
    · have hall : sortL (fun a b => a - b) (l.take i) ++ l.drop i = sortL (fun a b => a - b) l := by
        rcases hi2 with h | h
        · obtain rfl : i = n := by omega
          rw [← Hn.out, List.take_length, List.drop_length, List.append_nil]
        · subst h
          have h0 : l.length ≤ 1 := by rw [Hn.out]; omega
          rw [List.take_of_length_le h0, List.drop_eq_nil_of_le h0, List.append_nil]
      rw [hall] at hB
      have Hall := Lib.hid hall
      clear hall
      go_wp2
      go_end0
      exact ⟨rfl, hb, hB⟩


set_option maxHeartbeats 4000000 in
set_option maxRecDepth 100000 in
theorem len64_any (x : Int) (h0 : 0 ≤ x) (h1 : x ≤ 255) (w : World) : Calls Tryz.prog 113 #[.int .u64 x] w fun e w' => (∃ v : Int, e = .returned (.int .i64 v)) ∧ w = w' := by
  go_enter Tryz.func113, Tryz.ntmps113
  go_wp2
  all_goals first | (go_ret; exact ⟨⟨_, rfl⟩, rfl⟩) | (exfalso; have hs := Lib.len8tab_size; omega) | trace_state
theorem len_any (n : Nat) (hn : n ≤ 12) (w : World) : Calls Tryz.prog 97 #[.int .u64 n] w fun e w' => (∃ v : Int, e = .returned (.int .i64 v)) ∧ w = w' := by
  have C := Lib.hid (len64_any n (by omega) (by omega) w)
  go_enter Tryz.func97, Tryz.ntmps97
  go_wp2_with fail
  refine C.out.mono ?_; rintro e w1 ⟨⟨v, rfl⟩, rfl⟩
  go_wp2
  go_ret
  exact ⟨⟨_, rfl⟩, rfl⟩
theorem pdq_any (B T n cap : Nat) (l : List Int) (sp : List Value) (v : Int) (w : World) (hn : l.length = n) (hm : n ≤ 12) (hB : Blk w B T (l.map (Value.int .i64) ++ sp)) :
    Calls Tryz.prog 96 #[.slice (some ⟨B, 0, none⟩) n cap, .int .i64 0, .int .i64 n, .int .i64 v] w fun e w' => e = .returned (.tuple #[]) ∧ Dr.Bel [B] w w' ∧ Blk w' B T ((sortL (fun a b => a - b) l).map (Value.int .i64) ++ sp) := by
  have C := Lib.hid (ins_any B T n cap l sp w hn (by omega) hB)
  clear hB hn
  go_enter Tryz.func96, Tryz.ntmps96
  go_wp2
  go_loopw [1, 2, 8, 9] (fun a b x y wr => a = .int .i64 0 ∧ b = .int .i64 n ∧ x = .bool true ∧ y = .bool true ∧ w = wr) (fun _ _ x _ _ => 0)
  case atStart => exact ⟨rfl, rfl, rfl, rfl, rfl⟩
  case round =>
    obtain ⟨rfl, rfl, rfl, rfl, rfl⟩ := hrel
    go_wp2_with fail
    refine C.out.mono ?_; rintro e w1 ⟨rfl, hb, hB⟩
    go_wp2
    refine bodyPost_ret (results_none rfl _ _ _) rfl ?_
    exact ⟨rfl, hb, hB⟩
theorem sort_any (B T n cap : Nat) (l : List Int) (sp : List Value) (w : World) (hn : l.length = n) (hm : n ≤ 12) (hB : Blk w B T (l.map (Value.int .i64) ++ sp)) :
    Calls Tryz.prog 77 #[.slice (some ⟨B, 0, none⟩) n cap] w fun e w' => e = .returned (.tuple #[]) ∧ Dr.Bel [B] w w' ∧ Blk w' B T ((sortL (fun a b => a - b) l).map (Value.int .i64) ++ sp) := by
  have C := Lib.hid (fun v => pdq_any B T n cap l sp v w hn hm hB)
  have CL := Lib.hid (len_any n hm w)
  clear hB hn
  go_enter Tryz.func77, Tryz.ntmps77
  go_wp2_with fail
  refine CL.out.mono ?_; rintro e w1 ⟨⟨v, rfl⟩, rfl⟩
  go_wp2_with fail
  refine (C.out v).mono ?_; rintro e w1 ⟨rfl, hb, hB⟩
  go_wp2
  go_end0
  exact ⟨rfl, hb, hB⟩
/-- an empty slice that is nil -/
theorem sort_nil (cap : Nat) (w : World) : Calls Tryz.prog 77 #[.slice none 0 cap] w fun e w' => e = .returned (.tuple #[]) ∧ w = w' := by
  have C0 : Hid (∀ v : Int, Calls Tryz.prog 96 #[.slice none 0 cap, .int .i64 0, .int .i64 0, .int .i64 v] w fun e w' => e = .returned (.tuple #[]) ∧ w = w') := Lib.hid (fun v => by
    have C1 : Hid (Calls Tryz.prog 103 #[.slice none 0 cap, .int .i64 0, .int .i64 0] w fun e w' => e = .returned (.tuple #[]) ∧ w = w') := Lib.hid (by
      go_enter Tryz.func103, Tryz.ntmps103
      go_wp2
      go_loopw [6] (fun x wr => x = .int .i64 1 ∧ w = wr) (fun x _ => 0)
      case atStart => exact ⟨rfl, rfl⟩
      case round =>
        obtain ⟨rfl, rfl⟩ := hrel
        go_wp2
        go_end0
        exact ⟨rfl, rfl⟩)
    go_enter Tryz.func96, Tryz.ntmps96
    go_wp2
    go_loopw [1, 2, 8, 9] (fun a b x y wr => a = .int .i64 0 ∧ b = .int .i64 0 ∧ x = .bool true ∧ y = .bool true ∧ w = wr) (fun _ _ x _ _ => 0)
    case atStart => exact ⟨rfl, rfl, rfl, rfl, rfl⟩
    case round =>
      obtain ⟨rfl, rfl, rfl, rfl, rfl⟩ := hrel
      go_wp2_with fail
      refine C1.out.mono ?_; rintro e w1 ⟨rfl, rfl⟩
      go_wp2
      refine bodyPost_ret (results_none rfl _ _ _) rfl ?_
      exact ⟨rfl, rfl⟩)
  have CL := Lib.hid (len_any 0 (by omega) w)
  rw [show ((0 : Nat) : Int) = 0 from rfl] at CL
  go_enter Tryz.func77, Tryz.ntmps77
  go_wp2_with fail
  refine CL.out.mono ?_; rintro e w1 ⟨⟨v, rfl⟩, rfl⟩
  go_wp2_with fail
  refine (C0.out v).mono ?_; rintro e w1 ⟨rfl, rfl⟩
  go_wp2
  go_end0
  exact ⟨rfl, rfl⟩
end Go.Proofs.YtilkoooahoecfaaGreat

/- Walk: is a list an order? -/
namespace Go.Bs
open Go.RowKit Go.Pl Go.Sort
/-- a row of ints of the call's own, with its block -/
theorem OwnL.ints {w : World} {base : Nat} {v : Value} {l : List Int} (h : OwnL w base 3 1 encI v l) :
    (v = .slice none 0 0 ∧ l = []) ∨ ∃ g cap sp, v = .slice (some ⟨g, 0, none⟩) l.length cap ∧ base ≤ g ∧ Blk w g 3 (l.map (Value.int .i64) ++ sp) := by
  rcases h.2 with ⟨rfl, hn⟩ | ⟨g, cap, cur, rfl, hb, hg, hnc, hcm, hcs, htake⟩
  · exact .inl ⟨rfl, List.length_eq_zero_iff.1 hn⟩
  · refine .inr ⟨g, cap, cur.toList.drop (l.length * 1), rfl, hb, ?_⟩
    have e : ∀ l : List Int, l.flatMap encI = l.map (Value.int .i64) := fun l => by
      induction l with
      | nil => rfl
      | cons x l ih => rw [List.flatMap_cons, ih]; rfl
    have e2 : (l.map (Value.int .i64) ++ cur.toList.drop (l.length * 1)).toArray = cur := by
      rw [← e, ← htake, List.take_append_drop]
    unfold Blk
    rw [e2]
    exact hg
end Go.Bs
namespace Go.Proofs.YtilkoooahoecfaaGreat
open Go.RowKit Go.Bs Go.Pg Go.Pl Go.Sort
set_option maxRecDepth 100000 in
theorem clone_int (A : Option Addr) (n c : Nat) (l : List Int) (w : World) (hn : l.length = n) (hm : n ≤ 1000000) (hd : Cells w A 1 encI l) :
    Calls Tryz.prog 76 #[.slice A n c] w fun e w' => ∃ v, e = .returned v ∧ OwnL w' w.heap.size 3 1 encI v l ∧ Below w.heap.size w w' := by
  cases A with
  | none =>
    have h0 : l = [] := by
      cases l with
      | nil => rfl
      | cons x l => obtain ⟨b, off, h, -⟩ := hd.at (k := 0) (by simp); cases h
    subst h0
    obtain rfl : n = 0 := by simpa using hn.symm
    have he : ∀ w, (binOp .eql 23 (.slice none 0 c) (.slice none 0 0)).run Tryz.prog w = .ok (.bool true) w := fun _ => by kernel_rfl
    go_enter Tryz.func76, Tryz.ntmps76
    go_wp2
    go_ret
    exact ⟨_, rfl, OwnL.nil, Below.refl _ _⟩
  | some a =>
    have hb0 := ext_alloc w (.cells #[] 3)
    have he : ∀ w, (binOp .eql 23 (.slice (some a) n c) (.slice none 0 0)).run Tryz.prog w = .ok (.bool false) w := fun _ => by kernel_rfl
    have hd1 := hd.ext hb0
    have ho := own_new w 3 1 encI
    clear hd
    go_enter Tryz.func76, Tryz.ntmps76
    go_wp2_with (at_builtin; refine app_rows encI 23 3 1 8 et23 (by decide) (by decide) encI_len encI_one rfl _ _ rfl w.heap.size _ [] rfl ho (some a) n c l hn rfl hd1 (by simp; omega) (by simp) ?_; intro v' w' hown hb _ _)
    go_ret
    exact ⟨_, rfl, by simpa using hown, hb0.trans hb⟩

set_option maxRecDepth 100000 in
set_option maxHeartbeats 1000000 in
theorem ordered_any (s : Sh) (p : ShP) (A : Option Addr) (n c : Nat) (l : List Int) (w : World) (hn : l.length = n) (hm : n ≤ 12) (hd : Cells w A 1 encI l) :
    Calls Tryz.prog 51 #[shV s p, .slice A n c] w fun e w' => e = .returned (.bool (ordB s.acts.length l)) ∧ Below w.heap.size w w' := by
  have hord := ord_sorted s.acts.length l
  have hb0 := ext_alloc w (.cells (shC s p).toArray 36)
  have hS := Blk.new w 36 (shC s p)
  have hs0 : (w.alloc (.cells (shC s p).toArray 36)).heap.size = w.heap.size + 1 := by simp
  have CC := Lib.hid (clone_int A n c l (w.alloc (.cells (shC s p).toArray 36)) hn (by omega) (hd.ext hb0))
  have Hn := Lib.hid hn
  clear hd hn
  generalize hres : ordB s.acts.length l = res at *
  have Hord := Lib.hid hord
  clear hord hres
  unfold shV
  unfold shC at *
  go_enter Tryz.func51, Tryz.ntmps51
  go_upto_region 1 with fail
  generalize w.alloc (.cells #[.slice p.A s.acts.length p.cA, .slice p.R s.rest.length p.cR, .slice p.I s.ins.length p.cI, .slice p.O s.outs.length p.cO, .int .i64 s.cover, .int .i64 s.dull, .slice p.B s.before.length p.cB] 36) = W0 at *
  go_wp2_with fail
  refine CC.out.mono ?_; rintro e W1 ⟨v, rfl, hv, hb1⟩
  have hbw1 := hb0.trans (hb1.mono (by omega))
  have hS1 := hS.ext hb1
  clear CC hS
  rcases hv.ints with ⟨rfl, rfl⟩ | ⟨g, cap, sp, rfl, hg, hB⟩
  · have h0 : n = 0 := Hn.out.symm
    subst h0
    clear hv
    go_wp2_with fail
    refine (sort_nil 0 W1).mono ?_; rintro e w1 ⟨rfl, rfl⟩
    have x0 : W1.cell? ⟨w.heap.size, 0, none⟩ = _ := hS1.cell rfl
    go_wp2
    go_loopw [14] (fun x wr => x = .int .i64 0 ∧ W1 = wr) (fun x _ => 0)
    case atStart => exact ⟨rfl, rfl⟩
    case round =>
      obtain ⟨rfl, rfl⟩ := hrel
      by_cases hz : s.acts.length = 0
      · have hr : res = true := Hord.out.2 ⟨rfl, hz.symm⟩
        subst hr
        have hz' : (s.acts.length : Int) = 0 := by omega
        go_wp2
        go_ret
        exact ⟨ret_congr (bool_congr (by simp)), hbw1⟩
      · have hr : res = false := by
          cases res
          · rfl
          · exact absurd (Hord.out.1 rfl).2.symm hz
        subst hr
        have hz' : ¬ (s.acts.length : Int) = 0 := by omega
        go_wp2
        go_ret
        exact ⟨ret_congr (bool_congr (by first | (simp; done) | (simp; omega))), hbw1⟩
  · rw [Hn.out]
    have CS := Lib.hid (sort_any g 3 n cap l sp W1 Hn.out hm hB)
    clear hv hB
    go_wp2_with fail
    refine CS.out.mono ?_; rintro e W2 ⟨rfl, hb2, hB2⟩
    have hbw2 := hbw1.trans (Dr.Bel.old (n := w.heap.size) hb2 hbw1.size (by simp; omega))
    have hS2 := hb2.blk hS1 (by simp; omega)
    have x0 : W2.cell? ⟨w.heap.size, 0, none⟩ = _ := hS2.cell rfl
    have hSl : (sortL (fun a b => a - b) l).length = n := by rw [sortL_len, Hn.out]
    generalize sortL (fun a b => a - b) l = S at *
    have HSl := Lib.hid hSl
    clear CS hS1 hS2 hb2 hSl
    go_wp2
    go_loopw [14] (fun x wr => ∃ k : Nat, x = .int .i64 k ∧ k ≤ n ∧ Hid (∀ i, i < k → S[i]? = some (i : Int)) ∧ W2 = wr) (fun x _ => n - (intOf x).toNat)
    case atStart => exact ⟨0, rfl, by omega, Lib.hid (fun i hi => by omega), rfl⟩
    case round =>
      obtain ⟨k, rfl, hk, Hk, rfl⟩ := hrel
      by_cases hlt : k < n
      · have hk1 : k < S.length := by rw [HSl.out]; exact hlt
        have c0 : W2.cell? ⟨g, k, none⟩ = some (.int .i64 S[k]) := hB2.cell (i := k) (v := .int .i64 S[k]) (by rw [List.getElem?_append_left (by simpa using hk1), List.getElem?_map, List.getElem?_eq_getElem hk1]; rfl)
        have hlt' : (k : Int) < n := by omega
        have hk0 : (0 : Int) ≤ k := by omega
        by_cases he : S[k] = k
        · have He := Lib.hid he
          have he' : (S[k] != (k : Int)) = false := by simp [he]
          rw [he] at c0
          clear he he'
          go_wp2
          go_roundw
          case rel => exact ⟨k + 1, by go_num, by omega, Lib.hid (fun i hi => by
            rcases Nat.lt_or_ge i k with h | h
            · exact Hk.out i h
            · obtain rfl : i = k := by omega
              rw [List.getElem?_eq_getElem hk1, He.out]), by first | rfl | trivial⟩
          case measure => simp [intOf]; omega
        · have hr : res = false := by
            cases res
            · rfl
            · have h := (Hord.out.1 rfl).1
              refine absurd ?_ he
              have h2 : S[k]? = some (k : Int) := by rw [h]; exact upto_get (by rw [Hn.out]; exact hlt)
              rw [List.getElem?_eq_getElem hk1] at h2
              exact Option.some.inj h2
          subst hr
          generalize S[k] = y at *
          go_wp2
          go_ret
          exact ⟨rfl, hbw2⟩
      · obtain rfl : k = n := by omega
        have hSu : S = upto l.length := by
          apply List.ext_getElem?
          intro i
          rw [Hn.out]
          by_cases hi : i < k
          · rw [Hk.out i hi, upto_get hi]
          · rw [List.getElem?_eq_none (by rw [HSl.out]; omega), List.getElem?_eq_none (by rw [upto_len]; omega)]
        have Hsu := Lib.hid hSu
        clear hSu Hk hB2
        by_cases hz : k = s.acts.length
        · have hr : res = true := Hord.out.2 ⟨Hsu.out, by rw [Hn.out, hz]⟩
          subst hr
          have hz' : ((k : Int) == s.acts.length) = true := by simp; omega
          go_wp2
          go_ret
          exact ⟨ret_congr (bool_congr (by first | (simp; done) | (simp; omega))), hbw2⟩
        · have hr : res = false := by
            cases res
            · rfl
            · exact absurd ((Hn.out).symm.trans (Hord.out.1 rfl).2) hz
          subst hr
          have hz' : ((k : Int) == s.acts.length) = false := by simp; omega
          go_wp2
          go_ret
          exact ⟨ret_congr (bool_congr (by first | (simp; done) | (simp; omega))), hbw2⟩
end Go.Proofs.YtilkoooahoecfaaGreat

/- Walk: the first fault of an order. -/
namespace Go.Proofs.YtilkoooahoecfaaGreat
open Go.RowKit Go.Bs Go.Pg Go.Pl Go.Sort
/-- what an order is asked for -/
def askE (s : Sh) (l : List Int) : Int := if s.okB = true then if ordB s.acts.length l = true then 0 else 2 else 1
theorem asked_any (s : Sh) (p : ShP) (A : Option Addr) (n c : Nat) (l : List Int) (w : World) (h : ShM w s p) (hn : l.length = n) (hm : n ≤ 12) (hd : Cells w A 1 encI l) :
    Calls Tryz.prog 28 #[shV s p, .slice A n c] w fun e w' => e = .returned (.int .i64 (askE s l)) ∧ Below w.heap.size w w' := by
  have hb0 := ext_alloc w (.cells (shC s p).toArray 36)
  have hS := Blk.new w 36 (shC s p)
  have C1 := Lib.hid (valid_any s p (w.alloc (.cells (shC s p).toArray 36)) (h.ext hb0))
  have C2 := Lib.hid (fun W (hW : Below w.heap.size w W) => ordered_any s p A n c l W hn hm (hd.ext hW))
  unfold askE
  generalize s.okB = b1 at *
  generalize ordB s.acts.length l = b2 at *
  clear hd h hn
  unfold shV at *
  unfold shC at *
  go_enter Tryz.func28, Tryz.ntmps28
  go_upto_region 1 with fail
  generalize w.alloc (.cells #[.slice p.A s.acts.length p.cA, .slice p.R s.rest.length p.cR, .slice p.I s.ins.length p.cI, .slice p.O s.outs.length p.cO, .int .i64 s.cover, .int .i64 s.dull, .slice p.B s.before.length p.cB] 36) = W0 at *
  have x0 : W0.cell? ⟨w.heap.size, 0, none⟩ = _ := hS.cell rfl
  have x1 : W0.cell? ⟨w.heap.size, 1, none⟩ = _ := hS.cell rfl
  have x2 : W0.cell? ⟨w.heap.size, 2, none⟩ = _ := hS.cell rfl
  have x3 : W0.cell? ⟨w.heap.size, 3, none⟩ = _ := hS.cell rfl
  have x4 : W0.cell? ⟨w.heap.size, 4, none⟩ = _ := hS.cell rfl
  have x5 : W0.cell? ⟨w.heap.size, 5, none⟩ = _ := hS.cell rfl
  have x6 : W0.cell? ⟨w.heap.size, 6, none⟩ = _ := hS.cell rfl
  go_wp2_with fail
  refine C1.out.mono ?_; rintro e W1 ⟨rfl, hb1⟩
  have hw1 := hb0.trans (hb1.mono hb0.size)
  have hS1 := hS.ext hb1
  clear x0 x1 x2 x3 x4 x5 x6 hS
  have x0 : W1.cell? ⟨w.heap.size, 0, none⟩ = _ := hS1.cell rfl
  have x1 : W1.cell? ⟨w.heap.size, 1, none⟩ = _ := hS1.cell rfl
  have x2 : W1.cell? ⟨w.heap.size, 2, none⟩ = _ := hS1.cell rfl
  have x3 : W1.cell? ⟨w.heap.size, 3, none⟩ = _ := hS1.cell rfl
  have x4 : W1.cell? ⟨w.heap.size, 4, none⟩ = _ := hS1.cell rfl
  have x5 : W1.cell? ⟨w.heap.size, 5, none⟩ = _ := hS1.cell rfl
  have x6 : W1.cell? ⟨w.heap.size, 6, none⟩ = _ := hS1.cell rfl
  cases b1
  · go_wp2
    go_ret
    exact ⟨rfl, hw1⟩
  go_wp2_with fail
  refine (C2.out _ hw1).mono ?_; rintro e W2 ⟨rfl, hb2⟩
  cases b2
  · go_wp2
    go_ret
    exact ⟨rfl, hw1.trans (hb2.mono hw1.size)⟩
  · go_wp2
    go_ret
    exact ⟨rfl, hw1.trans (hb2.mono hw1.size)⟩
/-- 'set | 1<<a' -/
theorem or16 (set a : Nat) (hs : set < 65536) (ha : a < 16) : bits BinOp.or IntKind.u16 (set : Int) (IntKind.u16.wrap (2 ^ a)) = ((set ||| 2 ^ a : Nat) : Int) := by
  have h2 : 2 ^ a < 65536 := Nat.lt_of_le_of_lt (Nat.pow_le_pow_right (by omega) (show a ≤ 15 by omega)) (by decide)
  have e : IntKind.u16.wrap ((2 : Int) ^ a) = ((2 ^ a : Nat) : Int) := by
    rw [IntKind.wrap_u16, show ((2 : Int) ^ a) = ((2 ^ a : Nat) : Int) by norm_cast]
    exact Int.emod_eq_of_lt (Int.natCast_nonneg _) (show ((2 ^ a : Nat) : Int) < ((65536 : Nat) : Int) from Int.ofNat_lt.2 h2)
  rw [e]
  exact u16_or_nat set (2 ^ a) hs h2
theorem why_le (s : Sh) (i : Nat) (last sec : Int) (set : Nat) : s.why i last sec set ≤ 3 := by
  unfold Sh.why; split
  · omega
  · split
    · omega
    · split <;> omega
set_option maxRecDepth 100000 in
set_option maxHeartbeats 4000000 in
theorem fault_any (s : Sh) (p : ShP) (A : Option Addr) (m c : Nat) (k : List Nat) (w : World) (h : ShM w s p) (hok : s.Ok) (hkn : ∀ i ∈ k, i < s.acts.length) (hm : k.length = m) (hm12 : m ≤ 1000) (hd : Cells w A 1 encI (toI k)) :
    Calls Tryz.prog 29 #[shV s p, .slice A m c] w fun e w' => e = .returned (.tuple #[.int .i64 (s.fault k).1, .int .u8 (s.fault k).2]) ∧ Below w.heap.size w w' := by
  have hb0 := ext_alloc w (.cells (shC s p).toArray 36)
  have hS := Blk.new w 36 (shC s p)
  have hn8 := hok.n8
  have CP := Lib.hid (fun i (hi : i < s.acts.length) (last sec : Int) (set : Nat) W (hW : Below w.heap.size w W) => place_any s p i last sec set W (h.ext hW) hi)
  have CW := Lib.hid (fun (x : AcV) i (hi : i < s.acts.length) (hx : x.a = s.act i) (last sec : Int) (set : Nat) (hs : set < 65536) (hl : last = -1 ∧ sec = -1 ∨ ∃ k : Nat, k < s.acts.length ∧ last = k ∧ (sec = -1 ∨ ∃ j : Nat, j < s.acts.length ∧ sec = j)) W (hW : Below w.heap.size w W) => why_any s p x i last sec set W (h.ext hW) hok hi hx hs hl)
  generalize hres : s.fault k = res
  have Hres := Lib.hid hres
  have Hm := Lib.hid hm
  have Hk := Lib.hid hkn
  clear hres hm h hok hkn
  unfold shV at *
  unfold shC at *
  go_enter Tryz.func29, Tryz.ntmps29
  go_upto_region 1 with fail
  generalize w.alloc (.cells #[.slice p.A s.acts.length p.cA, .slice p.R s.rest.length p.cR, .slice p.I s.ins.length p.cI, .slice p.O s.outs.length p.cO, .int .i64 s.cover, .int .i64 s.dull, .slice p.B s.before.length p.cB] 36) = W0 at *
  go_wp2
  go_loopw [6, 7, 8, 14] (fun a b t x wr => ∃ (j : Nat) (last sec : Int) (set : Nat), a = .int .i64 last ∧ b = .int .i64 sec ∧ t = .int .u16 set ∧ x = .int .i64 j ∧ j ≤ m ∧ set < 256 ∧ Hid (last = -1 ∧ sec = -1 ∨ ∃ k : Nat, k < s.acts.length ∧ last = k ∧ (sec = -1 ∨ ∃ j : Nat, j < s.acts.length ∧ sec = j)) ∧
    Hid (s.faultL (k.drop j) j last sec set = res) ∧ Below w.heap.size w wr ∧ Blk wr w.heap.size 36 [.slice p.A s.acts.length p.cA, .slice p.R s.rest.length p.cR, .slice p.I s.ins.length p.cI, .slice p.O s.outs.length p.cO, .int .i64 s.cover, .int .i64 s.dull, .slice p.B s.before.length p.cB])
    (fun _ _ _ x _ => m - (intOf x).toNat)
  case atStart => exact ⟨0, -1, -1, 0, rfl, rfl, rfl, rfl, by omega, by omega, Lib.hid (.inl ⟨rfl, rfl⟩), Lib.hid (by rw [List.drop_zero]; exact Hres.out), hb0, hS⟩
  case round =>
    obtain ⟨j, last, sec, set, rfl, rfl, rfl, rfl, hj, hset, Hl, Hf, hbr, hSr⟩ := hrel
    clear hb0 hS
    by_cases hlt : j < m
    · have hjk : j < k.length := by rw [Hm.out]; exact hlt
      have hjk' : j < (toI k).length := by rw [toI_len]; exact hjk
      obtain ⟨b, off, rfl, -, c0⟩ := (hd.ext hbr).at1 hjk' rfl
      rw [toI_get hjk] at c0
      have hal := Hk.out k[j] (List.getElem_mem hjk)
      have hfl := Hf.out
      rw [List.drop_eq_getElem_cons hjk, Sh.faultL] at hfl
      have Hfl := Lib.hid hfl
      generalize k[j] = a at *
      clear hfl Hf
      have hlt' : (j : Int) < m := by omega
      have hj0 : (0 : Int) ≤ j := by omega
      go_upto_region 5 with fail
      refine Dr.wp_region_plan 9 [] (.q [0, 1, 2, 3, 4, 5] (.e1 6 (.e1 7 (.q [8] .done)))) (by kernel_rfl) (by kernel_rfl) ?_
      have hb1 := hbr.drew
      have hS1 := hSr.ext (ext_drew wr)
      clear hbr hSr c0
      generalize World.drew _ = W at *
      have q0 := Dr.cell0 (hS1.cell (i := 0) rfl)
      have q1 := Dr.cell0 (hS1.cell (i := 1) rfl)
      have q2 := Dr.cell0 (hS1.cell (i := 2) rfl)
      have q3 := Dr.cell0 (hS1.cell (i := 3) rfl)
      have q4 := Dr.cell0 (hS1.cell (i := 4) rfl)
      have q5 := Dr.cell0 (hS1.cell (i := 5) rfl)
      have q6 := Dr.cell0 (hS1.cell (i := 6) rfl)
      refine Dr.plan_q (l := [_, _, _, _, _, _]) rfl (fun K hK => ?_)
      iterate 6 (go_big_quiet_step (fail))
      refine wpQuiet_nil (hK _ ?_); clear hK K
      clear q0 q1 q2 q3 q4 q5 q6
      refine Dr.plan_e rfl (by rfl) (fun K hK => ?_)
      go_wp2_with fail
      refine (CP.out a hal last sec set W hb1).mono ?_; rintro e W1 ⟨⟨x, -, hx, rfl⟩, hx1⟩
      refine hK _ _ (.of hx1) ?_; clear hK K
      have hb2 := hb1.trans (hx1.mono hb1.size)
      have hS2 := hS1.ext hx1
      clear hb1 hS1 hx1
      refine Dr.plan_e rfl (by rfl) (fun K hK => ?_)
      go_wp2_with fail
      refine (CW.out x a hal hx last sec set (by omega) Hl.out W1 hb2).mono ?_; rintro e W2 ⟨rfl, hx2⟩
      refine hK _ _ (.of hx2) ?_; clear hK K
      have hb3 := hb2.trans (hx2.mono hb2.size)
      have hS3 := hS2.ext hx2
      clear hb2 hS2 hx2 hx
      refine Dr.plan_q (l := [_]) rfl (fun K hK => ?_)
      iterate 1 (go_big_quiet_step (fail))
      refine wpQuiet_nil (hK _ ?_); clear hK K
      refine Dr.plan_end rfl ?_
      by_cases hw : s.why a last sec set = 0
      · have hfl := Hfl.out
        rw [if_pos hw] at hfl
        have Hf2 := Lib.hid hfl
        rw [hw]
        clear hfl Hfl hw
        have hor := or16 set a (by omega) (by omega)
        go_upto_region 8 with fail
        refine Dr.wp_region_plan 9 [] (.q [0, 1, 2, 3, 4, 5, 6, 7, 8] .done) (by kernel_rfl) (by kernel_rfl) ?_
        have hb4 := hb3.drew
        have hS4 := hS3.ext (ext_drew W2)
        clear hb3 hS3
        generalize World.drew _ = W3 at *
        refine Dr.plan_q (l := [_, _, _, _, _, _, _, _, _]) rfl (fun K hK => ?_)
        iterate 9 (go_big_quiet_step (fail))
        refine wpQuiet_nil (hK _ ?_); clear hK K
        refine Dr.plan_end rfl ?_
        go_wp2
        go_roundw
        case rel => exact ⟨j + 1, a, last, set ||| 2 ^ a, rfl, rfl, rfl, by go_num, by omega, Nat.or_lt_two_pow (n := 8) hset (Nat.pow_lt_pow_right (by omega) (by omega)), Lib.hid (.inr ⟨a, hal, rfl, by
          rcases Hl.out with ⟨h1, -⟩ | ⟨q, hq, h1, -⟩
          · exact .inl h1
          · exact .inr ⟨q, hq, h1⟩⟩), Hf2, hb4, hS4⟩
        case measure => simp [intOf]; omega
      · have hfl := Hfl.out
        rw [if_neg hw] at hfl
        have Hf2 := Lib.hid hfl
        have hw3 := why_le s a last sec set
        generalize s.why a last sec set = wv at *
        have hw0 : ((wv : Int) != 0) = true := by simp; omega
        clear hfl Hfl
        go_wp2
        refine bodyPost_ret (v := .tuple #[.int .i64 j, .int .u8 wv]) (by simp [results, Tryz.results29, go_sem]) rfl ?_
        rw [← Hf2.out]
        exact ⟨rfl, hb3⟩
    · obtain rfl : j = m := by omega
      have hfl := Hf.out
      rw [List.drop_eq_nil_of_le (by rw [Hm.out]; omega), Sh.faultL] at hfl
      subst hfl
      go_wp2
      refine bodyPost_ret (v := .tuple #[.int .i64 0, .int .u8 0]) (by simp [results, Tryz.results29, go_sem]) rfl ?_
      exact ⟨rfl, hbr⟩
end Go.Proofs.YtilkoooahoecfaaGreat

/- Walks: the error, the cost and the sheet of an order; what the package hands out. (Printed by mk_prgl.py.) -/
namespace Go.Proofs.YtilkoooahoecfaaGreat
open Go.RowKit Go.Bs Go.Pg Go.Pl Go.Sort
/-- the error of Change -/
def chgE (s : Sh) (a b : Int) : Int := if s.okB = true then if btw a 0 (s.acts.length - 1) = true then if btw b 0 (s.acts.length - 1) = true then if a = b then 2 else 0 else 2 else 2 else 1
def ChgR (s : Sh) (a b : Int) (e : Ending) : Prop := ∃ x y z : Int, e = .returned (.tuple #[.int .i64 x, .int .i64 y, .int .i64 z]) ∧ z = chgE s a b ∧ (z ≠ 0 → x = 0 ∧ y = 0) ∧ (z = 0 → x = s.chM a.toNat b.toNat ∧ y = s.chC a.toNat b.toNat)
end Go.Proofs.YtilkoooahoecfaaGreat

/- Walk: slices.SortStableFunc at []int of at most 20 numbers. -/
import Derived.Deep.DeepCutAuto
import Derived.Deep.CutBlock
import Derived.BigRegion
import Derived.Test.YtilkoooahoecfaaSortP
import Derived.Test.YtilkoooahoecfaaPuA
namespace Go.Proofs.Ytilkoooahoecfaa
open Go.RowKit Go.Bs Go.Pl Go.Sort

/-- what is asked of a comparison: in each world in which all but the rows M lies unturned -/
def CmpB (g : Nat) (lb : Array Value) (cf : Int → Int → Int) (w : World) (M : List Nat) (S : List Int) : Prop :=
  ∀ (W : World) (x y : Int), x ∈ S → y ∈ S → Dr.Bel M w W → Calls Try.prog g (#[.int .i64 x, .int .i64 y] ++ lb) W fun e w' => e = .returned (.int .i64 (cf x y)) ∧ Below W.heap.size W w'

set_option maxRecDepth 100000 in
set_option maxHeartbeats 2000000 in
theorem ins_any (g : Nat) (lb : Array Value) (cf : Int → Int → Int) (B T n cap : Nat) (l : List Int) (sp : List Value) (w : World) (eg : Enters Try.prog g) (hn : l.length = n) (hm : n ≤ 1000000) (hB : Blk w B T (l.map (Value.int .i64) ++ sp)) (hcmp : CmpB g lb cf w [B] l) :
    Calls Try.prog 132 #[.slice (some ⟨B, 0, none⟩) n cap, .int .i64 0, .int .i64 n, .func (.func g) #[] lb] w fun e w' => e = .returned (.tuple #[]) ∧ Dr.Bel [B] w w' ∧ Blk w' B T ((sortL cf l).map (Value.int .i64) ++ sp) := by
  have Hn := Lib.hid hn
  have Hc := Lib.hid hcmp
  clear hn hcmp
  unfold Enters at eg
  go_enter Try.func132, Try.ntmps132
  go_wp2
  go_loopw [8] (fun x wr => ∃ i : Nat, x = .int .i64 i ∧ 1 ≤ i ∧ (i ≤ n ∨ i = 1) ∧ Dr.Bel [B] w wr ∧ Blk wr B T ((sortL cf (l.take i) ++ l.drop i).map (Value.int .i64) ++ sp)) (fun x _ => n + 1 - (intOf x).toNat)
  case atStart =>
    refine ⟨1, rfl, Nat.le_refl _, .inr rfl, Dr.Bel.refl _ _, ?_⟩
    have : sortL cf (l.take 1) ++ l.drop 1 = l := by
      cases l with
      | nil => rfl
      | cons x l => rfl
    rw [this]; exact hB
  case round =>
    clear hB
    obtain ⟨i, rfl, hi1, hi2, hb, hB⟩ := hrel
    by_cases hlt : i < n
    · have hlt' : (i : Int) < (n : Int) := by omega
      have hil : i < l.length := by rw [Hn.out]; exact hlt
      have hS : (sortL cf (l.take i)).length = i := by rw [sortL_len, List.length_take]; omega
      have hmem : ∀ y ∈ sortL cf (l.take i), y ∈ l := fun y hy => List.mem_of_mem_take ((sortL_perm cf _).mem_iff.1 hy)
      have hnext : sortL cf (l.take (i + 1)) = ins1 cf (sortL cf (l.take i)) l[i] := by rw [List.take_succ_eq_append_getElem hil, sortL_snoc]
      have hxm : l[i] ∈ l := List.getElem_mem hil
      rw [List.drop_eq_getElem_cons hil] at hB
      generalize hSS : sortL cf (l.take i) = S at *
      generalize hx : l[i] = x at *
      have HS := Lib.hid hS
      have Hmem := Lib.hid hmem
      have Hnext := Lib.hid hnext
      clear hS hmem hnext hSS hx
      go_upto_region 3 with fail
      go_wp2
      go_loopw [9] (fun u wr => ∃ (T1 D : List Int) (j : Nat), u = .int .i64 j ∧ T1.length = j ∧ T1.length + D.length = i ∧ Hid ((insR (fun s => decide (cf x s < 0)) x T1.reverse).reverse ++ D = ins1 cf S x) ∧ Hid (∀ y ∈ T1, y ∈ l) ∧ Dr.Bel [B] w wr ∧ Blk wr B T ((T1 ++ x :: (D ++ l.drop (i + 1))).map (Value.int .i64) ++ sp)) (fun u _ => (intOf u).toNat)
      case atStart => exact ⟨S, [], i, rfl, HS.out, by simp [HS.out], Lib.hid (by unfold ins1; simp), Lib.hid Hmem.out, hb, hB⟩
      case round =>
        clear hb hB
        obtain ⟨T1, D, j, rfl, hT, hTD, Hins, Hm, hb, hB⟩ := hrel
        have hexit : (T1 = [] ∨ ∃ T' s, T1 = T' ++ [s] ∧ ¬ cf x s < 0) → T1 ++ x :: D = ins1 cf S x := fun h => by
          rw [← Hins.out]
          rcases h with rfl | ⟨T', s, rfl, hs⟩
          · simp [insR]
          · simp [insR, hs]
        have Hexit := Lib.hid hexit
        clear hexit
        have hcc : T1 = [] ∨ ∃ T' s, T1 = T' ++ [s] := by
          rcases List.eq_nil_or_concat T1 with h0 | ⟨T', s, h0⟩
          · exact .inl h0
          · exact .inr ⟨T', s, by rw [h0, List.concat_eq_append]⟩
        rcases hcc with h0 | ⟨T', s, h0⟩
        · obtain rfl : j = 0 := by rw [← hT, h0]; rfl
          have He := Lib.hid (Hexit.out (.inl h0))
          clear h0
          go_upto_region 4 with fail
          refine Dr.wp_region_plan 17 [] (.q [0, 1, 2, 3, 4, 5, 6, 7, 8, 9, 10, 11, 12, 13] (.e1 14 (.q [15, 16] .done))) (by kernel_rfl) (by kernel_rfl) ?_
          have hb1 : Dr.Bel [B] w wr.drew := hb.trans (.of (ext_drew _))
          have hB1 := hB.drew
          clear hb hB
          generalize World.drew _ = W at *
          refine Dr.plan_q (l := [_, _, _, _, _, _, _, _, _, _, _, _, _, _]) rfl (fun K hK => ?_)
          iterate 14 (go_big_quiet_step (fail))
          refine wpQuiet_nil (hK _ ?_); clear hK K
          refine Dr.plan_e_skip rfl (by rfl) ?_; go_frame
          refine Dr.plan_q (l := [_, _]) rfl (fun K hK => ?_)
          iterate 2 (go_big_quiet_step (fail))
          refine wpQuiet_nil (hK _ ?_); clear hK K
          refine Dr.plan_end rfl ?_
          go_wp2
          go_roundw
          case rel =>
            refine ⟨i + 1, by go_num, by omega, .inl (by omega), hb1, ?_⟩
            rw [Hnext.out, ← He.out, List.append_assoc]
            exact hB1
          case measure => simp [intOf]; omega
        · obtain ⟨jp, rfl⟩ : ∃ jp, j = jp + 1 := ⟨j - 1, by rw [← hT, h0]; simp⟩
          have hT' : T'.length = jp := by rw [h0] at hT; simpa using hT
          subst h0
          have hsm := Hm.out s (by simp)
          have hg0 : ((T' ++ [s] ++ x :: (D ++ l.drop (i + 1))).map (Value.int .i64) ++ sp)[jp + 1]? = some (.int .i64 x) := by
            rw [← hT']; simp
          have hg1 : ((T' ++ [s] ++ x :: (D ++ l.drop (i + 1))).map (Value.int .i64) ++ sp)[jp]? = some (.int .i64 s) := by
            rw [← hT']; simp
          have c0 := hB.cell hg0
          have c1 := hB.cell hg1
          have f0 := hB.free (jp + 1)
          have f1 := hB.free jp
          have hj1 : (jp : Int) + 1 < (n : Int) := by
            have : T'.length + 1 + D.length = i := by simpa using hTD
            omega
          have hj2 : (jp : Int) < (n : Int) := by omega
          have hj3 : (0 : Int) < (jp : Int) + 1 := by omega
          have hj4 : (0 : Int) ≤ (jp : Int) + 1 := by omega
          have hj5 : (0 : Int) ≤ (jp : Int) := by omega
          have Hc2 := Lib.hid (fun W (h : Dr.Bel [B] w W) => Hc.out W x s hxm hsm h)
          have hset := set_swap T' (D ++ l.drop (i + 1)) s x
          rw [hT'] at hset
          have Hset := Lib.hid hset
          have HT' := Lib.hid hT'
          have HTD := Lib.hid hTD
          clear hg0 hg1 hset hT hT' hTD
          by_cases hlv : cf x s < 0
          · have Hins2 : Hid ((insR (fun s => decide (cf x s < 0)) x T'.reverse).reverse ++ (s :: D) = ins1 cf S x) := Lib.hid (by
              rw [← Hins.out]; simp [insR, hlv])
            generalize cf x s = cv at *
            go_upto_region 4 with fail
            refine Dr.wp_region_plan 17 [] (.q [0, 1, 2, 3, 4, 5, 6, 7, 8, 9, 10, 11, 12, 13] (.e1 14 (.q [15, 16] .done))) (by kernel_rfl) (by kernel_rfl) ?_
            have hb1 : Dr.Bel [B] w wr.drew := hb.trans (.of (ext_drew _))
            have hB1 := hB.drew
            have q0 := Dr.cell0 (cell_ext c0 (ext_drew _))
            have q1 := Dr.cell0 (cell_ext c1 (ext_drew _))
            clear hb hB c0 c1 f0 f1
            generalize World.drew _ = W at *
            refine Dr.plan_q (l := [_, _, _, _, _, _, _, _, _, _, _, _, _, _]) rfl (fun K hK => ?_)
            iterate 14 (go_big_quiet_step (fail))
            refine wpQuiet_nil (hK _ ?_); clear hK K
            refine Dr.plan_e rfl (by rfl) (fun K hK => ?_)
            go_wp2_with fail
            refine (Hc2.out W hb1).mono ?_; rintro e w1 ⟨rfl, hb2⟩
            refine hK _ _ (.of hb2) ?_; clear hK K
            have hb3 : Dr.Bel [B] w w1 := hb1.trans (.of hb2)
            have hB3 := hB1.ext hb2
            clear hb1 hB1 hb2 q0 q1
            refine Dr.plan_q (l := [_, _]) rfl (fun K hK => ?_)
            iterate 2 (go_big_quiet_step (fail))
            refine wpQuiet_nil (hK _ ?_); clear hK K
            refine Dr.plan_end rfl ?_
            have c0 := hB3.cell (i := jp + 1) (v := .int .i64 x) (by rw [← HT'.out]; simp)
            have c1 := hB3.cell (i := jp) (v := .int .i64 s) (by rw [← HT'.out]; simp)
            go_upto_region 6 with fail
            have f0 := hB3.free (jp + 1)
            have f1 := hB3.free jp
            have hB4 := (hB3.set (jp + 1) (.int .i64 s)).set jp (.int .i64 x)
            rw [List.set_append_left _ _ (by simp [← HT'.out]), List.set_append_left _ _ (by simp [← HT'.out])] at hB4
            rw [← List.map_set, ← List.map_set, show T' ++ [s] ++ x :: (D ++ l.drop (i + 1)) = T' ++ s :: x :: (D ++ l.drop (i + 1)) by simp, Hset.out] at hB4
            have HB4 := Lib.hid hB4
            clear hB4 hB3
            go_region
            all_goals go_wp2
            go_roundw
            case rel =>
              refine ⟨T', s :: D, jp, by go_num, HT'.out, ?_, Hins2, Lib.hid (fun y hy => Hm.out y (by simp [hy])), ?_, ?_⟩
              · have := HTD.out
                simp at this ⊢
                omega
              · exact ((hb3.trans (Dr.Bel.store (by simp) _)).trans (Dr.Bel.store (by simp) _)).trans (.of (ext_drew _))
              · exact HB4.out.drew
            case measure => simp [intOf]
          · have He := Lib.hid (Hexit.out (.inr ⟨T', s, rfl, hlv⟩))
            generalize cf x s = cv at *
            go_upto_region 4 with fail
            refine Dr.wp_region_plan 17 [] (.q [0, 1, 2, 3, 4, 5, 6, 7, 8, 9, 10, 11, 12, 13] (.e1 14 (.q [15, 16] .done))) (by kernel_rfl) (by kernel_rfl) ?_
            have hb1 : Dr.Bel [B] w wr.drew := hb.trans (.of (ext_drew _))
            have hB1 := hB.drew
            have q0 := Dr.cell0 (cell_ext c0 (ext_drew _))
            have q1 := Dr.cell0 (cell_ext c1 (ext_drew _))
            clear hb hB c0 c1 f0 f1
            generalize World.drew _ = W at *
            refine Dr.plan_q (l := [_, _, _, _, _, _, _, _, _, _, _, _, _, _]) rfl (fun K hK => ?_)
            iterate 14 (go_big_quiet_step (fail))
            refine wpQuiet_nil (hK _ ?_); clear hK K
            refine Dr.plan_e rfl (by rfl) (fun K hK => ?_)
            go_wp2_with fail
            refine (Hc2.out W hb1).mono ?_; rintro e w1 ⟨rfl, hb2⟩
            refine hK _ _ (.of hb2) ?_; clear hK K
            have hb3 : Dr.Bel [B] w w1 := hb1.trans (.of hb2)
            have hB3 := hB1.ext hb2
            clear hb1 hB1 hb2 q0 q1
            refine Dr.plan_q (l := [_, _]) rfl (fun K hK => ?_)
            iterate 2 (go_big_quiet_step (fail))
            refine wpQuiet_nil (hK _ ?_); clear hK K
            refine Dr.plan_end rfl ?_
            go_wp2
            go_roundw
            case rel =>
              refine ⟨i + 1, by go_num, by omega, .inl (by omega), hb3, ?_⟩
              rw [Hnext.out, ← He.out, List.append_assoc]
              exact hB3
            case measure => simp [intOf]; omega
    · have hall : sortL cf (l.take i) ++ l.drop i = sortL cf l := by
        rcases hi2 with h | h
        · obtain rfl : i = n := by omega
          rw [← Hn.out, List.take_length, List.drop_length, List.append_nil]
        · subst h
          have h0 : l.length ≤ 1 := by rw [Hn.out]; omega
          rw [List.take_of_length_le h0, List.drop_eq_nil_of_le h0, List.append_nil]
      rw [hall] at hB
      have Hall := Lib.hid hall
      clear hall
      go_wp2
      go_end0
      exact ⟨rfl, hb, hB⟩

def StabRel (w : World) (B T : Nat) (l : List Int) (sp : List Value) (x y : Value) (wr : World) : Prop :=
  (x = .int .i64 0 ∧ y = .int .i64 20 ∧ w = wr) ∨ (x = .int .i64 20 ∧ y = .int .i64 40 ∧ Dr.Bel [B] w wr ∧ Blk wr B T (l.map (Value.int .i64) ++ sp))
theorem ins_none (g : Nat) (lb : Array Value) (A : Option Addr) (n cap : Nat) (a : Nat) (w : World) (hm : a ≤ 1000000) :
    Calls Try.prog 132 #[.slice A n cap, .int .i64 a, .int .i64 a, .func (.func g) #[] lb] w fun e w' => e = .returned (.tuple #[]) ∧ w = w' := by
  go_enter Try.func132, Try.ntmps132
  go_wp2
  go_loopw [8] (fun x wr => x = .int .i64 ((a : Int) + 1) ∧ w = wr) (fun x _ => 0)
  case atStart => exact ⟨rfl, rfl⟩
  case round =>
    obtain ⟨rfl, rfl⟩ := hrel
    go_wp2
    go_end0
    exact ⟨rfl, rfl⟩

set_option maxHeartbeats 1000000 in
theorem stable_any (g : Nat) (lb : Array Value) (cf : Int → Int → Int) (B T n cap : Nat) (l : List Int) (sp : List Value) (w : World) (eg : Enters Try.prog g) (hn : l.length = n) (hm : n ≤ 20) (hB : Blk w B T (l.map (Value.int .i64) ++ sp)) (hcmp : CmpB g lb cf w [B] l) :
    Calls Try.prog 68 #[.slice (some ⟨B, 0, none⟩) n cap, .func (.func g) #[] lb] w fun e w' => e = .returned (.tuple #[]) ∧ Dr.Bel [B] w w' ∧ Blk w' B T ((sortL cf l).map (Value.int .i64) ++ sp) := by
  have HI := Lib.hid (ins_any g lb cf B T n cap l sp w eg hn (by omega) hB hcmp)
  clear hB hcmp hn
  have H : Calls Try.prog 109 #[.slice (some ⟨B, 0, none⟩) n cap, .int .i64 n, .func (.func g) #[] lb] w fun e w' => e = .returned (.tuple #[]) ∧ Dr.Bel [B] w w' ∧ Blk w' B T ((sortL cf l).map (Value.int .i64) ++ sp) := by
    by_cases h20 : n = 20
    · subst h20
      show Calls Try.prog 109 #[.slice (some ⟨B, 0, none⟩) 20 cap, .int .i64 20, .func (.func g) #[] lb] w _
      go_enter Try.func109, Try.ntmps109
      go_wp2
      go_loopw [7, 8] (fun x y wr => StabRel w B T (sortL cf l) sp x y wr) (fun x _ _ => 20 - (intOf x).toNat)
      case atStart => exact .inl ⟨rfl, rfl, rfl⟩
      case round =>
        rcases hrel with ⟨rfl, rfl, rfl⟩ | ⟨rfl, rfl, hb, hB⟩
        · go_wp2_with fail
          refine HI.out.mono ?_; rintro e w1 ⟨rfl, hb, hB⟩
          go_wp2
          go_roundw
          case rel => exact .inr ⟨rfl, rfl, hb, hB⟩
          case measure => simp [intOf]
        · go_wp2_with fail
          refine (ins_none g lb _ _ _ 20 wr (by omega)).mono ?_; rintro e w1 ⟨rfl, rfl⟩
          go_wp2
          go_loopw [6] (fun x wr' => x = .int .i64 20 ∧ wr = wr') (fun x _ => 0)
          case atStart => exact ⟨rfl, rfl⟩
          case round =>
            obtain ⟨rfl, rfl⟩ := hrel
            go_wp2
            go_end0
            exact ⟨rfl, hb, hB⟩
    · have h1 : ¬ (20 : Int) ≤ (n : Int) := by omega
      have h2 : ¬ (20 : Int) < (n : Int) := by omega
      go_enter Try.func109, Try.ntmps109
      go_wp2
      go_loopw [7, 8] (fun x y wr => x = .int .i64 0 ∧ y = .int .i64 20 ∧ w = wr) (fun x _ _ => 0)
      case atStart => exact ⟨rfl, rfl, rfl⟩
      case round =>
        obtain ⟨rfl, rfl, rfl⟩ := hrel
        go_wp2_with fail
        refine HI.out.mono ?_; rintro e w1 ⟨rfl, hb, hB⟩
        go_wp2
        go_loopw [6] (fun x wr' => x = .int .i64 20 ∧ w1 = wr') (fun x _ => 0)
        case atStart => exact ⟨rfl, rfl⟩
        case round =>
          obtain ⟨rfl, rfl⟩ := hrel
          go_wp2
          go_end0
          exact ⟨rfl, hb, hB⟩
  have HH := Lib.hid H
  clear H HI
  go_enter Try.func68, Try.ntmps68
  go_wp2_with fail
  refine HH.out.mono ?_; rintro e w1 ⟨rfl, hb, hB⟩
  go_wp2
  go_end0
  exact ⟨rfl, hb, hB⟩
end Go.Proofs.Ytilkoooahoecfaa

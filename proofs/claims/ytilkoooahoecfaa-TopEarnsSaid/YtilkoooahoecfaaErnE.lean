/- Walks: the laws' Ranges, Season. -/
import Derived.Test.YtilkoooahoecfaaErnD
namespace Go.Proofs.Ytilkoooahoecfaa.Er
open Go.RowKit Go.Bs Go.Pl Go.Sort Go.Er
theorem stE_one (x : StE) : ∀ u ∈ x.enc, u.oneCell' = true := by
  intro u hu
  simp [StE.enc] at hu
  rcases hu with rfl | rfl | rfl <;> rfl
theorem et93 : ElemT Try.prog 93 95 2 16 := ElemT.mk (z := .agg #[.int .i64 0, .int .i64 0]) Try.underlying93 (by kernel_rfl) rfl
set_option maxHeartbeats 2000000 in
theorem Ranges_any (A : Option Addr) (n c : Nat) (l : List (Int × Int)) (w : World) (hn : l.length = n) (hm : n ≤ 1000000) (hd : Cells w A 2 encR l) :
    Calls Try.prog 25 #[.slice A n c] w fun e w' => ∃ v, e = .returned v ∧ OwnL w' w.heap.size 95 2 encR v l ∧ Below w.heap.size w w' := by
  have Hn := Lib.hid hn
  clear hn
  go_enter Try.func25, Try.ntmps25
  go_wp2
  go_loopw [3, 4] (fun v t wr => ∃ k : Nat, t = .int .i64 k ∧ k ≤ n ∧ OwnL wr w.heap.size 95 2 encR v (l.take k) ∧ Below w.heap.size w wr) (fun _ t _ => n - (intOf t).toNat)
  case atStart => exact ⟨0, rfl, by omega, by rw [List.take_zero]; exact OwnL.nil, Below.refl _ _⟩
  case round =>
    obtain ⟨k, rfl, hk, ho, hbr⟩ := hrel
    by_cases hlt : k < n
    · have hk1 : k < l.length := by rw [Hn.out]; exact hlt
      obtain ⟨b, off, rfl, -, c0, c1⟩ := (hd.ext hbr).at2 hk1 rfl
      have Hs := Lib.hid (List.take_succ_eq_append_getElem hk1)
      have hkn : (k : Int) < (n : Int) := by omega
      have hk0 : (0 : Int) ≤ (k : Int) := by omega
      have htl : (l.take k).length ≤ 1000000 := by rw [List.length_take]; omega
      generalize l[k] = y at *
      obtain ⟨x, y⟩ := y
      simp only at c0 c1
      go_upto_region 5 with fail
      refine Dr.wp_region_plan 13 [] (.q [0, 1, 2, 3, 4, 5, 6, 7, 8, 9, 10, 11] (.e1 12 .done)) (by kernel_rfl) (by kernel_rfl) ?_
      have hbd := hbr.drew
      have hod := ho.drew
      have c0 := cell_ext c0 (ext_drew wr)
      have c1 := cell_ext c1 (ext_drew wr)
      clear hbr ho
      generalize World.drew wr = V at *
      have hVw := hbd.size
      have q0 := Dr.cell0 c0
      have q1 := Dr.cell0 c1
      with_reducible refine Dr.plan_q (l := [_, _, _, _, _, _, _, _, _, _, _, _]) (by with_unfolding_all exact rfl) (fun K hK => ?_)
      iterate 12 (go_big_quiet_step (fail))
      refine wpQuiet_nil (hK _ ?_); clear hK K
      refine Dr.plan_e rfl (by rfl) (fun K hK => ?_)
      go_wp2_with fail
      refine hK _ _ (Dr.Bel.of (ext_alloc _ _)) ?_; clear hK K
      have nw := Blk.new V 95 [.int .i64 x, .int .i64 y]
      have hx1 := ext_alloc V (.cells #[.int .i64 x, .int .i64 y] 95)
      have hbx := hbd.alloc hbd.size (.cells #[.int .i64 x, .int .i64 y] 95)
      refine Dr.plan_done (tl := [_, _]) rfl ?_
      go_wp2_with (at_builtin; refine app1 encR 93 95 2 16 et93 (by decide) (by decide) encR_len encR_one rfl _ _ rfl w.heap.size _ (l.take k) rfl (hod.alloc _) V.heap.size rfl (x, y) (fun j u hj => nw.cell hj) htl (by have := hx1.size; omega) ?_; intro g' cap' w' hown' hb3 _ _)
      rw [← Hs.out, List.length_take] at hown'
      have Hown := Lib.hid hown'
      have hb4 := hbx.trans hb3
      clear hb3 nw hown' hod
      go_roundw
      case rel => exact ⟨k + 1, by go_num, by omega, Hown.out, hb4⟩
      case measure => simp [intOf]; omega
    · obtain rfl : k = n := by omega
      rw [List.take_of_length_le (by rw [Hn.out]; exact Nat.le_refl _)] at ho
      go_wp2
      go_ret
      exact ⟨_, rfl, ho, hbr⟩
theorem et38 : ElemT Try.prog 38 104 3 24 := ElemT.mk (z := .agg #[.int .i64 0, .int .i64 0, .int .i64 0]) Try.underlying38 (by kernel_rfl) rfl
set_option maxHeartbeats 2000000 in
theorem Season_any (A : Option Addr) (n c : Nat) (l : List (StE)) (w : World) (hn : l.length = n) (hm : n ≤ 1000000) (hd : Cells w A 3 StE.enc l) :
    Calls Try.prog 11 #[.slice A n c] w fun e w' => ∃ v, e = .returned v ∧ OwnL w' w.heap.size 104 3 StE.enc v l ∧ Below w.heap.size w w' := by
  have Hn := Lib.hid hn
  clear hn
  go_enter Try.func11, Try.ntmps11
  go_wp2
  go_loopw [3, 4] (fun v t wr => ∃ k : Nat, t = .int .i64 k ∧ k ≤ n ∧ OwnL wr w.heap.size 104 3 StE.enc v (l.take k) ∧ Below w.heap.size w wr) (fun _ t _ => n - (intOf t).toNat)
  case atStart => exact ⟨0, rfl, by omega, by rw [List.take_zero]; exact OwnL.nil, Below.refl _ _⟩
  case round =>
    obtain ⟨k, rfl, hk, ho, hbr⟩ := hrel
    by_cases hlt : k < n
    · have hk1 : k < l.length := by rw [Hn.out]; exact hlt
      obtain ⟨b, off, rfl, -, c0, c1, c2⟩ := (hd.ext hbr).at3 hk1 rfl
      have Hs := Lib.hid (List.take_succ_eq_append_getElem hk1)
      have hkn : (k : Int) < (n : Int) := by omega
      have hk0 : (0 : Int) ≤ (k : Int) := by omega
      have htl : (l.take k).length ≤ 1000000 := by rw [List.length_take]; omega
      generalize l[k] = y at *
      obtain ⟨x, y, z⟩ := y
      simp only at c0 c1 c2
      go_upto_region 5 with fail
      refine Dr.wp_region_plan 18 [] (.q [0, 1, 2, 3, 4, 5, 6, 7, 8, 9, 10, 11, 12, 13, 14, 15, 16] (.e1 17 .done)) (by kernel_rfl) (by kernel_rfl) ?_
      have hbd := hbr.drew
      have hod := ho.drew
      have c0 := cell_ext c0 (ext_drew wr)
      have c1 := cell_ext c1 (ext_drew wr)
      have c2 := cell_ext c2 (ext_drew wr)
      clear hbr ho
      generalize World.drew wr = V at *
      have hVw := hbd.size
      have q0 := Dr.cell0 c0
      have q1 := Dr.cell0 c1
      have q2 := Dr.cell0 c2
      with_reducible refine Dr.plan_q (l := [_, _, _, _, _, _, _, _, _, _, _, _, _, _, _, _, _]) (by with_unfolding_all exact rfl) (fun K hK => ?_)
      iterate 17 (go_big_quiet_step (fail))
      refine wpQuiet_nil (hK _ ?_); clear hK K
      refine Dr.plan_e rfl (by rfl) (fun K hK => ?_)
      go_wp2_with fail
      refine hK _ _ (Dr.Bel.of (ext_alloc _ _)) ?_; clear hK K
      have nw := Blk.new V 104 [.int .i64 x, .int .i64 y, .int .i64 z]
      have hx1 := ext_alloc V (.cells #[.int .i64 x, .int .i64 y, .int .i64 z] 104)
      have hbx := hbd.alloc hbd.size (.cells #[.int .i64 x, .int .i64 y, .int .i64 z] 104)
      refine Dr.plan_done (tl := [_, _]) rfl ?_
      go_wp2_with (at_builtin; refine app1 StE.enc 38 104 3 24 et38 (by decide) (by decide) StE.len stE_one rfl _ _ rfl w.heap.size _ (l.take k) rfl (hod.alloc _) V.heap.size rfl ⟨x, y, z⟩ (fun j u hj => nw.cell hj) htl (by have := hx1.size; omega) ?_; intro g' cap' w' hown' hb3 _ _)
      rw [← Hs.out, List.length_take] at hown'
      have Hown := Lib.hid hown'
      have hb4 := hbx.trans hb3
      clear hb3 nw hown' hod
      go_roundw
      case rel => exact ⟨k + 1, by go_num, by omega, Hown.out, hb4⟩
      case measure => simp [intOf]; omega
    · obtain rfl : k = n := by omega
      rw [List.take_of_length_le (by rw [Hn.out]; exact Nat.le_refl _)] at ho
      go_wp2
      go_ret
      exact ⟨_, rfl, ho, hbr⟩
end Go.Proofs.Ytilkoooahoecfaa.Er

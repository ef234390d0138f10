/- Walks: route: has, fits, licensed, played, lost. -/
import Derived.Test.YtilkoooahoecfaaErnU
namespace Go.Er
open Go.RowKit Go.Bs
/-- what a test for a fault tells: where it says false, P holds -/
def Tst (P : Prop) (w : World) (e : Ending) (w' : World) : Prop := ∃ b : Bool, e = .returned (.bool b) ∧ (b = false → P) ∧ Below w.heap.size w w'
theorem Tst.of {P : Prop} {w w' : World} {b : Bool} (h : Below w.heap.size w w') (hP : b = false → P) : Tst P w (.returned (.bool b)) w' := ⟨b, rfl, hP, h⟩
def Played (t : TrV) (s : StE) : Prop := 1 ≤ s.town ∧ s.town ≤ (t.tw.length : Int) - 1
def NearE (s : StE) : Prop := -1000000000 ≤ s.fst ∧ s.fst ≤ 1000000000 ∧ -1000000000 ≤ s.lst ∧ s.lst ≤ 1000000000
end Go.Er
namespace Go.Proofs.Ytilkoooahoecfaa.Er
open Go.RowKit Go.Bs Go.Pl Go.Sort Go.Er
theorem rhas_any (x y n : Int) (w : World) : Calls Try.prog 124 #[.agg #[.int .i64 x, .int .i64 y], .int .i64 n] w fun e w' => e = .returned (.bool (btwE n x y)) ∧ Below w.heap.size w w' := by
  have hx := ext_alloc w (.cells #[.int .i64 x, .int .i64 y] 95)
  have C1 := Lib.hid (fun V => rwithin_any n x y V)
  generalize btwE n x y = q at *
  go_enter Try.func124, Try.ntmps124
  go_wp2_with fail
  refine (C1.out _).mono ?_; rintro e w1 ⟨rfl, rfl⟩
  go_wp2
  go_ret
  exact ⟨rfl, hx⟩
theorem fits_any (s : StE) (lo hi : Int) (w : World) (hn : NearE s) : Calls Try.prog 85 #[s.val, .agg #[.int .i64 lo, .int .i64 hi]] w (Soft (s.fst ≤ s.lst ∧ s.lst - s.fst ≤ 9) w) := by
  obtain ⟨a, f, z⟩ := s
  obtain ⟨n1, n2, n3, n4⟩ := hn
  unfold StE.val
  simp only at n1 n2 n3 n4 ⊢
  have hx := (ext_alloc w (.cells #[.int .i64 a, .int .i64 f, .int .i64 z] 104)).trans ((ext_alloc _ (.cells #[.int .i64 lo, .int .i64 hi] 95)).mono (by simp))
  have eU : IntKind.u64.wrap (IntKind.u64.wrap z - IntKind.u64.wrap f) = (z - f) % 18446744073709551616 := by
    show ((z % 18446744073709551616 - f % 18446744073709551616) % 18446744073709551616) = _
    omega
  generalize hP : (f ≤ z ∧ z - f ≤ 9) = P
  have HP := Lib.hid (show f ≤ z → z - f < 10 → P from fun h1 h2 => by rw [← hP]; exact ⟨h1, by omega⟩)
  clear hP
  have C1 := Lib.hid (fun V => rhas_any lo hi (z - f + 1) V)
  generalize btwE (z - f + 1) lo hi = q at *
  have e1 : wrap64 (z - f) = z - f := by unfold wrap64; omega
  have e2 : wrap64 (z - f + 1) = z - f + 1 := by unfold wrap64; omega
  by_cases h1 : f ≤ z
  rotate_left
  · clear eU
    go_enter Try.func85, Try.ntmps85
    go_wp2
    go_ret
    exact Soft.no hx
  have eU : IntKind.u64.wrap (IntKind.u64.wrap z - IntKind.u64.wrap f) = z - f := by rw [eU]; omega
  by_cases h2 : z - f < 10
  · have HQ := Lib.hid (HP.out h1 h2)
    go_enter Try.func85, Try.ntmps85
    go_wp2_with fail
    refine (C1.out _).mono ?_; rintro e w1 ⟨rfl, hb1⟩
    go_wp2
    go_ret
    exact Soft.of (hx.trans (hb1.mono (by simp; omega))) fun _ => HQ.out
  · go_enter Try.func85, Try.ntmps85
    go_wp2
    go_ret
    exact Soft.no hx
theorem played_any (t : TrV) (n : Int) (w : World) (h9 : t.tw.length ≤ 9) : Calls Try.prog 30 #[t.val, .int .i64 n] w fun e w' => e = .returned (.bool (btwE n 1 ((t.tw.length : Int) - 1))) ∧ Below w.heap.size w w' := by
  have hx := ext_alloc w (.cells t.cells.toArray 33)
  have C1 := Lib.hid (fun V => rwithin_any n 1 ((t.tw.length : Int) - 1) V)
  generalize btwE n 1 ((t.tw.length : Int) - 1) = q at *
  have e1 : wrap64 ((t.tw.length : Int) - 1) = (t.tw.length : Int) - 1 := by unfold wrap64; omega
  unfold TrV.val TrV.cells at *
  go_enter Try.func30, Try.ntmps30
  go_wp2_with fail
  refine (C1.out _).mono ?_; rintro e w1 ⟨rfl, rfl⟩
  go_wp2
  go_ret
  exact ⟨rfl, hx⟩
set_option maxHeartbeats 1000000 in
theorem lost_any (t : TrV) (i k : Nat) (w : World) (hM : TrM w t) (ht : TrOk t) (hi : i < t.tw.length) (hk : k < t.tw.length) : Calls Try.prog 92 #[t.val, .int .i64 i, .int .i64 k] w fun e w' => (∃ n : Int, e = .returned (.int .i64 n)) ∧ Below w.heap.size w w' := by
  have hx := ext_alloc w (.cells t.cells.toArray 33)
  have hB := Blk.new w 33 t.cells
  have hM1 := hM.ext hx
  have hil : i < t.lg.length := by have := ht.nl; omega
  have hsh := ht.shift
  have hlen := ht.row i hi
  rw [getD_at _ hil] at hlen
  obtain ⟨b3, off3, hBB, -, r9⟩ := hM1.lg.at1 hil rfl
  have hrM := (hM1.leg _ (List.getElem_mem hil)).1
  unfold TrV.val TrV.cells at *
  have hnl := ht.nl
  rw [hBB, hnl] at hB ⊢
  generalize t.lg[i] = row at *
  obtain ⟨rl, rA, rc⟩ := row
  simp only at r9 hrM hlen
  obtain ⟨b6, off6, rfl, -, r10, -⟩ := at_rng hrM (show k < rl.length by omega)
  generalize (rl.getD k (0, 0)).1 = x at *
  rw [hlen] at r9
  have hk0 : (0 : Int) ≤ (k : Int) := by omega
  have hi0 : (0 : Int) ≤ (i : Int) := by omega
  have hkn : (k : Int) < (t.tw.length : Int) := by omega
  have hin : (i : Int) < (t.tw.length : Int) := by omega
  generalize t.shift = sh at *
  have hs0 : (sh == 0) = false := by rw [beq_eq_false_iff_ne]; omega
  have hs1 : ¬ sh = 0 := by omega
  have hs2 : ¬ sh = -1 := by omega
  clear hM hM1 ht hrM
  rw [hBB, hnl] at hx r9 r10
  clear hBB hnl hil
  go_enter Try.func92, Try.ntmps92
  go_upto_region 1 with fail
  change Blk (w.alloc (.cells #[.int .i64 t.days, .int .i64 sh, .int .i64 t.size, .slice t.A t.tw.length t.ca, .slice (some ⟨b3, off3, none⟩) t.tw.length t.cb] 33)) w.heap.size _ _ at hB
  generalize w.alloc (.cells #[.int .i64 t.days, .int .i64 sh, .int .i64 t.size, .slice t.A t.tw.length t.ca, .slice (some ⟨b3, off3, none⟩) t.tw.length t.cb] 33) = W1 at *
  refine Dr.wp_region_plan 19 [] (.q [0, 1, 2, 3, 4, 5, 6, 7, 8, 9, 10, 11, 12, 13, 14, 15, 16, 17, 18] .done) (by kernel_rfl) (by kernel_rfl) ?_
  have hbd := hx.drew
  have hBd := hB.drew
  have q0 := Dr.cell0 (cell_ext r9 (ext_drew W1))
  have q1 := Dr.cell0 (cell_ext r10 (ext_drew W1))
  clear r9 r10 hB hx
  generalize World.drew W1 = V at *
  have q2 := Dr.cell0 (hBd.cell (i := 1) rfl)
  have q3 := Dr.cell0 (hBd.cell (i := 4) rfl)
  with_reducible refine Dr.plan_q (l := [_, _, _, _, _, _, _, _, _, _, _, _, _, _, _, _, _, _, _]) (by with_unfolding_all exact rfl) (fun K hK => ?_)
  iterate 19 (go_big_quiet_step (fail))
  refine wpQuiet_nil (hK _ ?_); clear hK K
  refine Dr.plan_end rfl ?_
  try go_frame
  all_goals
    go_wp2
    all_goals
      go_ret
      exact ⟨⟨_, rfl⟩, hbd⟩
end Go.Proofs.Ytilkoooahoecfaa.Er

/- Walk: contracts by rank. -/
import Derived.Test.YtilkoooahoecfaaSetC
namespace Go.Proofs.Ytilkoooahoecfaa
open Go.RowKit Go.Bs Go.Pu Go.Pl Go.Sort

theorem mk27 (x : Int) (h0 : 0 ≤ x) (h1 : x ≤ 1000000000000) (w : World) :
    (Instr.makeSlice 59 (.int .i64 x) (.int .i64 x)).run Try.prog w = .ok (.slice (some ⟨w.heap.size, 0, none⟩) x.toNat x.toNat) (w.alloc (.cells ((tab x.toNat fun _ => 0).map (Value.int .i64)).toArray 3)) := by
  obtain ⟨i0, hi, hz0, hz1, hz2⟩ := info_parts info3
  exact run_mk Try.underlying59 hi hz0 hz1 hz2 x h0 h1 w
theorem mk27n (n : Nat) (hn : n ≤ 1000000) (w : World) :
    (Instr.makeSlice 59 (.int .i64 (n : Int)) (.int .i64 (n : Int))).run Try.prog w = .ok (.slice (some ⟨w.heap.size, 0, none⟩) n n) (w.alloc (.cells ((tab n fun _ => 0).map (Value.int .i64)).toArray 3)) := by
  have := mk27 (n : Int) (by omega) (by omega) w
  simpa using this

theorem rank_any (x : Ctr) (w : World) : Calls Try.prog 37 #[Ctr.val x] w fun e w' => e = .returned (.int .i64 x.rank) ∧ Below w.heap.size w w' := by
  obtain ⟨a, b, c⟩ := x
  unfold Ctr.val
  go_enter Try.func37, Try.ntmps37
  go_wp2
  go_ret
  exact ⟨rfl, ext_alloc _ _⟩

def ctrN (l : List Ctr) (i : Nat) : Ctr := l.getD i default
theorem ctrN_get {l : List Ctr} {i : Nat} (h : i < l.length) : l[i] = ctrN l i := by simp [ctrN, h]

set_option maxRecDepth 100000 in
set_option maxHeartbeats 1000000 in
theorem cmp_rank (l : List Ctr) (A : Option Addr) (n cap : Nat) (B0 B1 : Nat) (M : List Nat) (w : World) (hn : l.length = n) (hd : Cells w A 3 Ctr.enc l) (h0 : Blk w B0 42 [.slice A n cap]) (h1 : Blk w B1 112 [.func (.func 37) #[] #[]])
    (hM0 : B0 ∉ M) (hM1 : B1 ∉ M) (hA : ∀ k, A.map (·.block) = some k → k ∉ M) (hok : ∀ m ∈ l, 0 ≤ m.rank ∧ m.rank ≤ 100) (S : List Int) (hS : ∀ x ∈ S, 0 ≤ x ∧ x < n) :
    CmpB 69 #[.pointer (some ⟨B1, 0, none⟩), .pointer (some ⟨B0, 0, none⟩)] (fun a b => (ctrN l a.toNat).rank - (ctrN l b.toNat).rank) w M S := by
  intro W x y hx hy hb
  have hx := hS x hx
  have hy := hS y hy
  have hdW := cells_bel hd hb hA
  have h0W : Blk W B0 42 [.slice A n cap] := hb.blk h0 hM0
  have h1W : Blk W B1 112 [.func (.func 37) #[] #[]] := hb.blk h1 hM1
  obtain ⟨i, rfl⟩ := Int.eq_ofNat_of_zero_le hx.1
  obtain ⟨j, rfl⟩ := Int.eq_ofNat_of_zero_le hy.1
  have hi : i < n := by omega
  have hj : j < n := by omega
  have hil : i < l.length := by omega
  have hjl : j < l.length := by omega
  simp only [Int.toNat_natCast]
  have ho1 := ctrN_get hil
  have ho2 := ctrN_get hjl
  have hk1 := hok _ (List.getElem_mem hil)
  have hk2 := hok _ (List.getElem_mem hjl)
  show Calls Try.prog 69 #[.int .i64 i, .int .i64 j, .pointer (some ⟨B1, 0, none⟩), .pointer (some ⟨B0, 0, none⟩)] W _
  obtain ⟨b, off, rfl, -, c0, c1, c2⟩ := hdW.at3 hil rfl
  obtain ⟨b', off', e', -, d0, d1, d2⟩ := hdW.at3 hjl rfl
  cases e'
  rw [← ho1, ← ho2]
  have hi' : (i : Int) < (n : Int) := by omega
  have hj' : (j : Int) < (n : Int) := by omega
  have P1 := Lib.hid (fun W => rank_any l[i] W)
  have P2 := Lib.hid (fun W => rank_any l[j] W)
  generalize l[i] = x1 at *
  generalize l[j] = x2 at *
  obtain ⟨m1, i1, p1⟩ := x1
  obtain ⟨m2, i2, p2⟩ := x2
  simp only at c0 c1 c2 d0 d1 d2 hk1 hk2 ⊢
  clear ho1 ho2 hd h0 h1 hb
  go_enter Try.func69, Try.ntmps69
  go_upto_region 1 with fail
  refine Dr.wp_region_plan 14 [] (.q [0, 1, 2, 3, 4, 6, 7, 8, 9, 10] (.e1 5 (.e1 11 (.q [12, 13] .done)))) (by kernel_rfl) (by kernel_rfl) ?_
  have hb1 := ext_drew W
  have q0 := Dr.cell0 (cell_ext c0 hb1)
  have q1 := Dr.cell0 (cell_ext c1 hb1)
  have q2 := Dr.cell0 (cell_ext c2 hb1)
  have r0 := Dr.cell0 (cell_ext d0 hb1)
  have r1 := Dr.cell0 (cell_ext d1 hb1)
  have r2 := Dr.cell0 (cell_ext d2 hb1)
  have s0 := Dr.cell0 ((h0W.ext hb1).cell (i := 0) rfl)
  have s1 := Dr.cell0 ((h1W.ext hb1).cell (i := 0) rfl)
  clear c0 c1 c2 d0 d1 d2 h0W h1W hdW
  generalize World.drew _ = W1 at *
  refine Dr.plan_q (l := [_, _, _, _, _, _, _, _, _, _]) rfl (fun K hK => ?_)
  iterate 10 (go_big_quiet_step (fail))
  refine wpQuiet_nil (hK _ ?_); clear hK K
  clear q0 q1 q2 r0 r1 r2 s0 s1
  refine Dr.plan_e rfl (by rfl) (fun K hK => ?_)
  go_wp2_with fail
  refine (P1.out _).mono ?_; rintro e w1 ⟨rfl, hb2⟩
  refine hK _ _ (.of hb2) ?_; clear hK K
  refine Dr.plan_e rfl (by rfl) (fun K hK => ?_)
  go_wp2_with fail
  refine (P2.out _).mono ?_; rintro e w2 ⟨rfl, hb3⟩
  refine hK _ _ (.of hb3) ?_; clear hK K
  refine Dr.plan_q (l := [_, _]) rfl (fun K hK => ?_)
  iterate 2 (go_big_quiet_step (fail))
  refine wpQuiet_nil (hK _ ?_); clear hK K
  refine Dr.plan_end rfl ?_
  go_wp2
  go_ret
  exact ⟨rfl, ext_trans (ext_trans hb1 hb2) hb3⟩

/-- the numbers below k, behind them zeros -/
def ups (n k : Nat) : List Int := tab n fun i => if i < k then (i : Int) else 0
theorem ups_zero (n : Nat) : ups n 0 = tab n fun _ => 0 := by unfold ups; congr 1
theorem ups_set (n k : Nat) : (ups n k).set k (k : Int) = ups n (k + 1) := by
  unfold ups
  rw [tab_set]
  congr 1
  funext i
  unfold upd
  by_cases h : i = k
  · subst h; simp
  · rw [if_neg h]
    show (if i < k then (i : Int) else 0) = _
    by_cases h2 : i < k
    · rw [if_pos h2, if_pos (by omega)]
    · rw [if_neg h2, if_neg (by omega)]
theorem ups_full (n : Nat) : ups n n = upto n := by
  unfold ups tab upto
  apply List.map_congr_left
  intro i hi
  rw [if_pos (List.mem_range.1 hi)]
  rfl

set_option maxRecDepth 100000 in
set_option maxHeartbeats 1000000 in
theorem ranked_any (l : List Ctr) (A : Option Addr) (n cap : Nat) (w : World) (hn : l.length = n) (h20 : n ≤ 20) (hd : Cells w A 3 Ctr.enc l) (hok : ∀ m ∈ l, 0 ≤ m.rank ∧ m.rank ≤ 100) :
    Calls Try.prog 36 #[.slice A n cap, .func (.func 37) #[] #[]] w fun e w' => ∃ v, e = .returned v ∧ FreshL w w' 1 encI v (rankL (fun i => (ctrN l i.toNat).rank) n) ∧ Below w.heap.size w w' := by
  have hb0 := ext_trans (ext_alloc w (.cells #[.slice A n cap] 42)) (ext_alloc _ (.cells #[.func (.func 37) #[] #[]] 112))
  have hB0 := (Blk.new w 42 [.slice A n cap]).alloc (.cells #[.func (.func 37) #[] #[]] 112)
  have hB1 := Blk.new (w.alloc (.cells #[.slice A n cap] 42)) 112 [.func (.func 37) #[] #[]]
  rw [World.size_alloc] at hB1
  have hsz : ((w.alloc (.cells #[.slice A n cap] 42)).alloc (.cells #[.func (.func 37) #[] #[]] 112)).heap.size = w.heap.size + 2 := by simp
  have Hn := Lib.hid hn
  have Hsz := Lib.hid hsz
  have hmk := fun w => mk27n n (by omega) w
  clear hn hsz
  go_enter Try.func36, Try.ntmps36
  go_upto_region 1 with fail
  change Blk ((w.alloc (.cells #[.slice A n cap] 42)).alloc (.cells #[.func (.func 37) #[] #[]] 112)) w.heap.size 42 [.slice A n cap] at hB0
  change Blk ((w.alloc (.cells #[.slice A n cap] 42)).alloc (.cells #[.func (.func 37) #[] #[]] 112)) (w.heap.size + 1) 112 [.func (.func 37) #[] #[]] at hB1
  generalize (w.alloc (.cells #[.slice A n cap] 42)).alloc (.cells #[.func (.func 37) #[] #[]] 112) = W0 at *
  have x0 : W0.cell? ⟨w.heap.size, 0, none⟩ = _ := hB0.cell rfl
  go_upto_region 2 with fail
  clear x0
  have hI : IArr (W0.alloc (.cells ((tab n fun _ => 0).map (Value.int .i64)).toArray 3)) W0.heap.size 3 (ups n 0) := by rw [ups_zero]; exact Blk.new W0 3 _
  have hb1 : Dr.Bel [W0.heap.size] W0 (W0.alloc (.cells ((tab n fun _ => 0).map (Value.int .i64)).toArray 3)) := Dr.Bel.of (ext_alloc _ _)
  clear hmk
  generalize W0.alloc (.cells ((tab n fun _ => 0).map (Value.int .i64)).toArray 3) = W1 at *
  go_wp2
  go_loopw [6, 12] (fun _ x wr => ∃ k : Nat, x = .int .i64 k ∧ k ≤ n ∧ IArr wr W0.heap.size 3 (ups n k) ∧ Dr.Bel [W0.heap.size] W0 wr) (fun _ x _ => n - (intOf x).toNat)
  case atStart => exact ⟨0, rfl, by omega, hI, hb1⟩
  case round =>
    clear hI hb1
    obtain ⟨k, rfl, hk, hI, hb⟩ := hrel
    by_cases hlt : k < n
    · have hlt' : (k : Int) < (n : Int) := by omega
      have c0 := hI.cell (i := k) (tab_get _ hlt)
      have f0 := hI.free k
      have hI2 := hI.set k (k : Int)
      rw [ups_set] at hI2
      go_wp2
      go_roundw
      case rel => exact ⟨k + 1, by go_num, by omega, hI2, hb.put (by simp) _⟩
      case measure => simp [intOf]; omega
    · obtain rfl : k = n := by omega
      rw [ups_full] at hI
      have hblk : Blk wr W0.heap.size 3 ((upto k).map (Value.int .i64) ++ []) := by rw [List.append_nil]; exact hI
      have hb2 : Below w.heap.size w wr := hb0.trans (hb.old (by have := hb0.size; omega) (by simp; have := hb0.size; omega))
      have hAlt : ∀ q, A.map (·.block) = some q → 0 < k → q < w.heap.size := fun q hq h0 => by
        obtain ⟨b, off, e, hlt, -⟩ := hd.at3 (k := 0) (by rw [Hn.out]; exact h0) rfl
        subst e; simp at hq; subst hq; exact hlt
      have hc : CmpB 69 #[.pointer (some ⟨w.heap.size + 1, 0, none⟩), .pointer (some ⟨w.heap.size, 0, none⟩)] (fun a b => (ctrN l a.toNat).rank - (ctrN l b.toNat).rank) wr [W0.heap.size] (upto k) := by
        by_cases h0 : k = 0
        · subst h0; intro W x y hx; simp [upto] at hx
        · have hz := Hsz.out
          exact cmp_rank l A k cap w.heap.size (w.heap.size + 1) [W0.heap.size] wr Hn.out (hd.ext hb2) (hb.blk hB0 (by simp; omega)) (hb.blk hB1 (by simp; omega)) (by simp; omega) (by simp; omega) (fun q hq => by have := hAlt q hq (by omega); simp; omega) hok (upto k) (fun x hx => mem_upto.1 hx)
      have HS := Lib.hid (stable_any 69 #[.pointer (some ⟨w.heap.size + 1, 0, none⟩), .pointer (some ⟨w.heap.size, 0, none⟩)] _ W0.heap.size 3 k k (upto k) [] wr (enters_of Try.func69 (by kernel_rfl) rfl) (upto_len k) h20 hblk hc)
      clear hc hblk hI hd hB0 hB1
      go_wp2_with fail
      refine HS.out.mono ?_; rintro e w1 ⟨rfl, hbl, hblk⟩
      go_wp2
      go_ret
      rw [List.append_nil] at hblk
      have hz := Hsz.out
      refine ⟨.slice (some ⟨W0.heap.size, 0, none⟩) k k, rfl, ⟨some ⟨W0.heap.size, 0, none⟩, k, by rw [rank_len], by rw [rank_len]; exact Nat.le_refl _, by unfold maxLen; omega, IArr.cells hblk, fun q hq => by simp at hq; subst hq; exact ⟨by omega, hblk.lt⟩⟩, hb2.trans (hbl.old (by have := hb2.size; omega) (by simp; omega))⟩
end Go.Proofs.Ytilkoooahoecfaa

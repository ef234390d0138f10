/- Walk: the first fault of an order. -/
import Derived.Test.YtcnidhcdkbfpcaaPrgJ
namespace Go.Proofs.Ytcnidhcdkbfpcaa
open Go.RowKit Go.Bs Go.Pg Go.Pl Go.Sort
/-- what an order is asked for -/
def askE (s : Sh) (l : List Int) : Int := if s.okB = true then if ordB s.acts.length l = true then 0 else 2 else 1
theorem asked_any (s : Sh) (p : ShP) (A : Option Addr) (n c : Nat) (l : List Int) (w : World) (h : ShM w s p) (hn : l.length = n) (hm : n ≤ 12) (hd : Cells w A 1 encI l) :
    Calls Try.prog 55 #[shV s p, .slice A n c] w fun e w' => e = .returned (.int .i64 (askE s l)) ∧ Below w.heap.size w w' := by
  have hb0 := ext_alloc w (.cells (shC s p).toArray 35)
  have hS := Blk.new w 35 (shC s p)
  have C1 := Lib.hid (valid_any s p (w.alloc (.cells (shC s p).toArray 35)) (h.ext hb0))
  have C2 := Lib.hid (fun W (hW : Below w.heap.size w W) => ordered_any s p A n c l W hn hm (hd.ext hW))
  unfold askE
  generalize s.okB = b1 at *
  generalize ordB s.acts.length l = b2 at *
  clear hd h hn
  unfold shV at *
  unfold shC at *
  go_enter Try.func55, Try.ntmps55
  go_upto_region 1 with fail
  generalize w.alloc (.cells #[.slice p.A s.acts.length p.cA, .slice p.R s.rest.length p.cR, .slice p.I s.ins.length p.cI, .slice p.O s.outs.length p.cO, .int .i64 s.cover, .int .i64 s.dull, .slice p.B s.before.length p.cB] 35) = W0 at *
  have x0 : W0.cell? ⟨w.heap.size, 0, none⟩ = _ := hS.cell rfl
  have x1 : W0.cell? ⟨w.heap.size, 1, none⟩ = _ := hS.cell rfl
  have x2 : W0.cell? ⟨w.heap.size, 2, none⟩ = _ := hS.cell rfl
  have x3 : W0.cell? ⟨w.heap.size, 3, none⟩ = _ := hS.cell rfl
  have x4 : W0.cell? ⟨w.heap.size, 4, none⟩ = _ := hS.cell rfl
  have x5 : W0.cell? ⟨w.heap.size, 5, none⟩ = _ := hS.cell rfl
  have x6 : W0.cell? ⟨w.heap.size, 6, none⟩ = _ := hS.cell rfl
  go_wp2_with fail
  refine C1.out.mono ?_; rintro e W1 ⟨rfl, hb1⟩
  have hw1 := hb0.trans (hb1.mono hb0.size)
  have hS1 := hS.ext hb1
  clear x0 x1 x2 x3 x4 x5 x6 hS
  have x0 : W1.cell? ⟨w.heap.size, 0, none⟩ = _ := hS1.cell rfl
  have x1 : W1.cell? ⟨w.heap.size, 1, none⟩ = _ := hS1.cell rfl
  have x2 : W1.cell? ⟨w.heap.size, 2, none⟩ = _ := hS1.cell rfl
  have x3 : W1.cell? ⟨w.heap.size, 3, none⟩ = _ := hS1.cell rfl
  have x4 : W1.cell? ⟨w.heap.size, 4, none⟩ = _ := hS1.cell rfl
  have x5 : W1.cell? ⟨w.heap.size, 5, none⟩ = _ := hS1.cell rfl
  have x6 : W1.cell? ⟨w.heap.size, 6, none⟩ = _ := hS1.cell rfl
  cases b1
  · go_wp2
    go_ret
    exact ⟨rfl, hw1⟩
  go_wp2_with fail
  refine (C2.out _ hw1).mono ?_; rintro e W2 ⟨rfl, hb2⟩
  cases b2
  · go_wp2
    go_ret
    exact ⟨rfl, hw1.trans (hb2.mono hw1.size)⟩
  · go_wp2
    go_ret
    exact ⟨rfl, hw1.trans (hb2.mono hw1.size)⟩
/-- 'set | 1<<a' -/
theorem or16 (set a : Nat) (hs : set < 65536) (ha : a < 16) : bits BinOp.or IntKind.u16 (set : Int) (IntKind.u16.wrap (2 ^ a)) = ((set ||| 2 ^ a : Nat) : Int) := by
  have h2 : 2 ^ a < 65536 := Nat.lt_of_le_of_lt (Nat.pow_le_pow_right (by omega) (show a ≤ 15 by omega)) (by decide)
  have e : IntKind.u16.wrap ((2 : Int) ^ a) = ((2 ^ a : Nat) : Int) := by
    rw [IntKind.wrap_u16, show ((2 : Int) ^ a) = ((2 ^ a : Nat) : Int) by norm_cast]
    exact Int.emod_eq_of_lt (Int.natCast_nonneg _) (show ((2 ^ a : Nat) : Int) < ((65536 : Nat) : Int) from Int.ofNat_lt.2 h2)
  rw [e]
  exact u16_or_nat set (2 ^ a) hs h2
theorem why_le (s : Sh) (i : Nat) (last sec : Int) (set : Nat) : s.why i last sec set ≤ 3 := by
  unfold Sh.why; split
  · omega
  · split
    · omega
    · split <;> omega
set_option maxRecDepth 100000 in
set_option maxHeartbeats 4000000 in
theorem fault_any (s : Sh) (p : ShP) (A : Option Addr) (m c : Nat) (k : List Nat) (w : World) (h : ShM w s p) (hok : s.Ok) (hkn : ∀ i ∈ k, i < s.acts.length) (hm : k.length = m) (hm12 : m ≤ 1000) (hd : Cells w A 1 encI (toI k)) :
    Calls Try.prog 56 #[shV s p, .slice A m c] w fun e w' => e = .returned (.tuple #[.int .i64 (s.fault k).1, .int .u8 (s.fault k).2]) ∧ Below w.heap.size w w' := by
  have hb0 := ext_alloc w (.cells (shC s p).toArray 35)
  have hS := Blk.new w 35 (shC s p)
  have hn8 := hok.n8
  have CP := Lib.hid (fun i (hi : i < s.acts.length) (last sec : Int) (set : Nat) W (hW : Below w.heap.size w W) => place_any s p i last sec set W (h.ext hW) hi)
  have CW := Lib.hid (fun (x : AcV) i (hi : i < s.acts.length) (hx : x.a = s.act i) (last sec : Int) (set : Nat) (hs : set < 65536) (hl : last = -1 ∧ sec = -1 ∨ ∃ k : Nat, k < s.acts.length ∧ last = k ∧ (sec = -1 ∨ ∃ j : Nat, j < s.acts.length ∧ sec = j)) W (hW : Below w.heap.size w W) => why_any s p x i last sec set W (h.ext hW) hok hi hx hs hl)
  generalize hres : s.fault k = res
  have Hres := Lib.hid hres
  have Hm := Lib.hid hm
  have Hk := Lib.hid hkn
  clear hres hm h hok hkn
  unfold shV at *
  unfold shC at *
  go_enter Try.func56, Try.ntmps56
  go_upto_region 1 with fail
  generalize w.alloc (.cells #[.slice p.A s.acts.length p.cA, .slice p.R s.rest.length p.cR, .slice p.I s.ins.length p.cI, .slice p.O s.outs.length p.cO, .int .i64 s.cover, .int .i64 s.dull, .slice p.B s.before.length p.cB] 35) = W0 at *
  go_wp2
  go_loopw [6, 7, 8, 14] (fun a b t x wr => ∃ (j : Nat) (last sec : Int) (set : Nat), a = .int .i64 last ∧ b = .int .i64 sec ∧ t = .int .u16 set ∧ x = .int .i64 j ∧ j ≤ m ∧ set < 256 ∧ Hid (last = -1 ∧ sec = -1 ∨ ∃ k : Nat, k < s.acts.length ∧ last = k ∧ (sec = -1 ∨ ∃ j : Nat, j < s.acts.length ∧ sec = j)) ∧
    Hid (s.faultL (k.drop j) j last sec set = res) ∧ Below w.heap.size w wr ∧ Blk wr w.heap.size 35 [.slice p.A s.acts.length p.cA, .slice p.R s.rest.length p.cR, .slice p.I s.ins.length p.cI, .slice p.O s.outs.length p.cO, .int .i64 s.cover, .int .i64 s.dull, .slice p.B s.before.length p.cB])
    (fun _ _ _ x _ => m - (intOf x).toNat)
  case atStart => exact ⟨0, -1, -1, 0, rfl, rfl, rfl, rfl, by omega, by omega, Lib.hid (.inl ⟨rfl, rfl⟩), Lib.hid (by rw [List.drop_zero]; exact Hres.out), hb0, hS⟩
  case round =>
    obtain ⟨j, last, sec, set, rfl, rfl, rfl, rfl, hj, hset, Hl, Hf, hbr, hSr⟩ := hrel
    clear hb0 hS
    by_cases hlt : j < m
    · have hjk : j < k.length := by rw [Hm.out]; exact hlt
      have hjk' : j < (toI k).length := by rw [toI_len]; exact hjk
      obtain ⟨b, off, rfl, -, c0⟩ := (hd.ext hbr).at1 hjk' rfl
      rw [toI_get hjk] at c0
      have hal := Hk.out k[j] (List.getElem_mem hjk)
      have hfl := Hf.out
      rw [List.drop_eq_getElem_cons hjk, Sh.faultL] at hfl
      have Hfl := Lib.hid hfl
      generalize k[j] = a at *
      clear hfl Hf
      have hlt' : (j : Int) < m := by omega
      have hj0 : (0 : Int) ≤ j := by omega
      go_upto_region 5 with fail
      refine Dr.wp_region_plan 9 [] (.q [0, 1, 2, 3, 4, 5] (.e1 6 (.e1 7 (.q [8] .done)))) (by kernel_rfl) (by kernel_rfl) ?_
      have hb1 := hbr.drew
      have hS1 := hSr.ext (ext_drew wr)
      clear hbr hSr c0
      generalize World.drew _ = W at *
      have q0 := Dr.cell0 (hS1.cell (i := 0) rfl)
      have q1 := Dr.cell0 (hS1.cell (i := 1) rfl)
      have q2 := Dr.cell0 (hS1.cell (i := 2) rfl)
      have q3 := Dr.cell0 (hS1.cell (i := 3) rfl)
      have q4 := Dr.cell0 (hS1.cell (i := 4) rfl)
      have q5 := Dr.cell0 (hS1.cell (i := 5) rfl)
      have q6 := Dr.cell0 (hS1.cell (i := 6) rfl)
      refine Dr.plan_q (l := [_, _, _, _, _, _]) rfl (fun K hK => ?_)
      iterate 6 (go_big_quiet_step (fail))
      refine wpQuiet_nil (hK _ ?_); clear hK K
      clear q0 q1 q2 q3 q4 q5 q6
      refine Dr.plan_e rfl (by rfl) (fun K hK => ?_)
      go_wp2_with fail
      refine (CP.out a hal last sec set W hb1).mono ?_; rintro e W1 ⟨⟨x, -, hx, rfl⟩, hx1⟩
      refine hK _ _ (.of hx1) ?_; clear hK K
      have hb2 := hb1.trans (hx1.mono hb1.size)
      have hS2 := hS1.ext hx1
      clear hb1 hS1 hx1
      refine Dr.plan_e rfl (by rfl) (fun K hK => ?_)
      go_wp2_with fail
      refine (CW.out x a hal hx last sec set (by omega) Hl.out W1 hb2).mono ?_; rintro e W2 ⟨rfl, hx2⟩
      refine hK _ _ (.of hx2) ?_; clear hK K
      have hb3 := hb2.trans (hx2.mono hb2.size)
      have hS3 := hS2.ext hx2
      clear hb2 hS2 hx2 hx
      refine Dr.plan_q (l := [_]) rfl (fun K hK => ?_)
      iterate 1 (go_big_quiet_step (fail))
      refine wpQuiet_nil (hK _ ?_); clear hK K
      refine Dr.plan_end rfl ?_
      by_cases hw : s.why a last sec set = 0
      · have hfl := Hfl.out
        rw [if_pos hw] at hfl
        have Hf2 := Lib.hid hfl
        rw [hw]
        clear hfl Hfl hw
        have hor := or16 set a (by omega) (by omega)
        go_upto_region 8 with fail
        refine Dr.wp_region_plan 9 [] (.q [0, 1, 2, 3, 4, 5, 6, 7, 8] .done) (by kernel_rfl) (by kernel_rfl) ?_
        have hb4 := hb3.drew
        have hS4 := hS3.ext (ext_drew W2)
        clear hb3 hS3
        generalize World.drew _ = W3 at *
        refine Dr.plan_q (l := [_, _, _, _, _, _, _, _, _]) rfl (fun K hK => ?_)
        iterate 9 (go_big_quiet_step (fail))
        refine wpQuiet_nil (hK _ ?_); clear hK K
        refine Dr.plan_end rfl ?_
        go_wp2
        go_roundw
        case rel => exact ⟨j + 1, a, last, set ||| 2 ^ a, rfl, rfl, rfl, by go_num, by omega, Nat.or_lt_two_pow (n := 8) hset (Nat.pow_lt_pow_right (by omega) (by omega)), Lib.hid (.inr ⟨a, hal, rfl, by
          rcases Hl.out with ⟨h1, -⟩ | ⟨q, hq, h1, -⟩
          · exact .inl h1
          · exact .inr ⟨q, hq, h1⟩⟩), Hf2, hb4, hS4⟩
        case measure => simp [intOf]; omega
      · have hfl := Hfl.out
        rw [if_neg hw] at hfl
        have Hf2 := Lib.hid hfl
        have hw3 := why_le s a last sec set
        generalize s.why a last sec set = wv at *
        have hw0 : ((wv : Int) != 0) = true := by simp; omega
        clear hfl Hfl
        go_wp2
        refine bodyPost_ret (v := .tuple #[.int .i64 j, .int .u8 wv]) (by simp [results, Try.results56, go_sem]) rfl ?_
        rw [← Hf2.out]
        exact ⟨rfl, hb3⟩
    · obtain rfl : j = m := by omega
      have hfl := Hf.out
      rw [List.drop_eq_nil_of_le (by rw [Hm.out]; omega), Sh.faultL] at hfl
      subst hfl
      go_wp2
      refine bodyPost_ret (v := .tuple #[.int .i64 0, .int .u8 0]) (by simp [results, Try.results56, go_sem]) rfl ?_
      exact ⟨rfl, hbr⟩
end Go.Proofs.Ytcnidhcdkbfpcaa

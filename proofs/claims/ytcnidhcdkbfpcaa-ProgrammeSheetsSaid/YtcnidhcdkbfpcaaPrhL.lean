/- Walk: the reference's Change. -/
import Derived.Test.YtcnidhcdkbfpcaaPrhJ
namespace Go.Proofs.Ytcnidhcdkbfpcaa
open Go.RowKit Go.Bs Go.Pg Go.Pl Go.Sort
set_option maxRecDepth 100000 in
set_option maxHeartbeats 1000000 in
theorem RChange_any (s : Sh) (p : ShP) (a b : Nat) (w : World) (h : ShM w s p) (hok : s.Ok) (ha : a < s.acts.length) (hb : b < s.acts.length) :
    Calls Try.prog 31 #[shV s p, .int .i64 a, .int .i64 b] w fun e w' => e = .returned (.tuple #[.int .i64 (s.chM a b), .int .i64 (s.chC a b)]) ∧ Below w.heap.size w w' := by
  have n8 := hok.n8
  have i10 := hok.i10
  have hb0 := ext_alloc w (.cells (shC s p).toArray 26)
  have hS := Blk.new w 26 (shC s p)
  have Hh := Lib.hid (h.ext hb0)
  have Hok := Lib.hid hok
  have Hoi := Lib.hid hok.oi
  have Hra := Lib.hid (h.bit ha).1
  have Hrb := Lib.hid (h.bit hb).1
  have Hend := Lib.hid (Sh.chTo_end hok ha hb)
  have hta := hok.ten a
  have htb := hok.ten b
  have hdu := hok.dull
  have hcb := hok.chM a b
  have HC := Lib.hid (show s.chC a b = s.chM a b + s.dull * max 0 ((s.act a).ten - (s.act b).ten) from rfl)
  generalize s.chC a b = cc at *
  generalize s.chM a b = cm at *
  clear h hok
  unfold shV at *
  unfold shC at *
  go_enter Try.func31, Try.ntmps31
  go_upto_region 1 with fail
  change Blk (w.alloc (.cells #[.slice p.A s.acts.length p.cA, .slice p.R s.rest.length p.cR, .slice p.I s.ins.length p.cI, .slice p.O s.outs.length p.cO, .int .i64 s.cover, .int .i64 s.dull, .slice p.B s.before.length p.cB] 26)) _ _ _ at hS
  generalize w.alloc (.cells #[.slice p.A s.acts.length p.cA, .slice p.R s.rest.length p.cR, .slice p.I s.ins.length p.cI, .slice p.O s.outs.length p.cO, .int .i64 s.cover, .int .i64 s.dull, .slice p.B s.before.length p.cB] 26) = W0 at *
  have ha0 : (0 : Int) ≤ a := by omega
  have ha1 : (a : Int) < (s.acts.length : Int) := by omega
  have hbb0 : (0 : Int) ≤ b := by omega
  have hbb1 : (b : Int) < (s.acts.length : Int) := by omega
  go_wp2
  go_loopw [8, 9] (fun n t wr => ∃ k : Nat, n = .int .i64 (s.chTo a b k) ∧ t = .int .i64 k ∧ k ≤ s.ins.length ∧ Below W0.heap.size W0 wr) (fun _ t _ => s.ins.length - (intOf t).toNat)
  case atStart => exact ⟨0, by simp [Sh.chTo, isum], rfl, by omega, Below.refl _ _⟩
  case round =>
    obtain ⟨k, rfl, rfl, hk, hbr⟩ := hrel
    have hSr := hS.ext hbr
    by_cases hlt : k < s.ins.length
    · have hlt' : (k : Int) < (s.ins.length : Int) := by omega
      have hlo' : (k : Int) < (s.outs.length : Int) := by rw [Hoi.out]; omega
      have hk0 : (0 : Int) ≤ k := by omega
      have x2 : wr.cell? ⟨w.heap.size, 2, none⟩ = _ := hSr.cell (i := 2) rfl
      go_upto_region 5 with fail
      clear x2
      refine Dr.wp_region_plan 18 [] (.q [0, 1, 2, 3, 4, 5, 6, 8, 9, 10, 11, 12, 13, 14] (.e1 7 (.e1 15 (.q [16, 17] .done)))) (by kernel_rfl) (by kernel_rfl) ?_
      have hbd := hbr.drew
      have hSd := hSr.ext (ext_drew wr)
      clear hbr hSr
      generalize World.drew _ = W at *
      have Hm := Lib.hid (Hh.out.ext hbd)
      obtain ⟨bk, off, C, cz, hA, -, -, -, c2, -, -, -⟩ := Hm.out.at ha
      obtain ⟨bk', off', C', cz', hA', -, -, -, d2, -, -, -⟩ := Hm.out.at hb
      rw [hA] at hA'
      cases hA'
      rw [hA] at hSd
      have c2 := Dr.cell0 c2
      have d2 := Dr.cell0 d2
      have q1 := Dr.cell0 (hSd.cell (i := 0) rfl)
      clear hA
      refine Dr.plan_q (l := [_, _, _, _, _, _, _, _, _, _, _, _, _, _]) rfl (fun K hK => ?_)
      iterate 14 (go_big_quiet_step (fail))
      refine wpQuiet_nil (hK _ ?_); clear hK K c2 d2 q1
      have A1 := Lib.hid (has_any (s.act a).rigs k W Hra.out (by omega))
      have A2 := Lib.hid (has_any (s.act b).rigs k W Hrb.out (by omega))
      have h16 : decide (k < 16) = true := by simp; omega
      rw [h16, Bool.true_and] at A1 A2
      have Hstep := Lib.hid (Sh.chTo_succ s a b k)
      have hT := Sh.chTo_bd Hok.out a b k
      have hi1 := Sh.getD_bd Hok.out.ins (by omega) k
      have ho1 := Sh.getD_bd Hok.out.outs (by omega) k
      unfold Sh.chG at Hstep
      generalize (s.act a).rigs.testBit k = xa at *
      generalize (s.act b).rigs.testBit k = xb at *
      refine Dr.plan_e rfl (by rfl) (fun K hK => ?_)
      go_wp2_with fail
      refine A1.out.mono ?_; rintro e w1 ⟨rfl, rfl⟩
      refine hK _ _ (Dr.Bel.refl _ _) ?_; clear hK K
      refine Dr.plan_e rfl (by rfl) (fun K hK => ?_)
      go_wp2_with fail
      refine A2.out.mono ?_; rintro e w1 ⟨rfl, rfl⟩
      refine hK _ _ (Dr.Bel.refl _ _) ?_; clear hK K
      refine Dr.plan_q (l := [_, _]) rfl (fun K hK => ?_)
      iterate 2 (go_big_quiet_step (fail))
      refine wpQuiet_nil (hK _ ?_); clear hK K
      refine Dr.plan_end rfl ?_
      clear A1 A2
      obtain ⟨bi, oi, hI, -, ci⟩ := Hm.out.ins.at1 hlt rfl
      obtain ⟨bo, oo, hO, -, co⟩ := Hm.out.outs.at1 (by rw [Hoi.out]; exact hlt) rfl
      rw [hI, hO] at hSd
      have x2 : W.cell? ⟨w.heap.size, 2, none⟩ = _ := hSd.cell (i := 2) rfl
      have x3 : W.cell? ⟨w.heap.size, 3, none⟩ = _ := hSd.cell (i := 3) rfl
      have gi : s.ins.getD k 0 = s.ins[k] := by simp [hlt]
      have go : s.outs.getD k 0 = s.outs[k]'(by rw [Hoi.out]; exact hlt) := by simp [show k < s.outs.length by rw [Hoi.out]; exact hlt]
      rw [gi] at hi1 Hstep
      rw [go] at ho1 Hstep
      generalize s.ins[k] = vi at *
      generalize s.outs[k]'_ = vo at *
      clear hI hO gi go
      generalize s.chTo a b k = T at *
      cases xa <;> cases xb
      · have HS : Hid (s.chTo a b (k + 1) = T) := Lib.hid (by have := Hstep.out; simp at this; exact this)
        clear x2 x3 ci co Hstep
        go_wp2
        go_roundw
        case rel => exact ⟨k + 1, by rw [HS.out], by go_num, by omega, hbd⟩
        case measure => simp [intOf]; omega
      · have HS : Hid (s.chTo a b (k + 1) = T + vi) := Lib.hid (by have := Hstep.out; simp at this; exact this)
        clear x3 co Hstep
        go_wp2
        go_roundw
        case rel => exact ⟨k + 1, by rw [HS.out], by go_num, by omega, hbd⟩
        case measure => simp [intOf]; omega
      · have HS : Hid (s.chTo a b (k + 1) = T + vo) := Lib.hid (by have := Hstep.out; simp at this; exact this)
        clear x2 ci Hstep
        go_wp2
        go_roundw
        case rel => exact ⟨k + 1, by rw [HS.out], by go_num, by omega, hbd⟩
        case measure => simp [intOf]; omega
      · have HS : Hid (s.chTo a b (k + 1) = T) := Lib.hid (by have := Hstep.out; simp at this; exact this)
        clear x2 x3 ci co Hstep
        go_wp2
        go_roundw
        case rel => exact ⟨k + 1, by rw [HS.out], by go_num, by omega, hbd⟩
        case measure => simp [intOf]; omega
    · obtain rfl : k = s.ins.length := by omega
      have x2 : wr.cell? ⟨w.heap.size, 2, none⟩ = _ := hSr.cell (i := 2) rfl
      rw [Hend.out]
      go_upto_region 10 with fail
      clear x2
      refine Dr.wp_region_plan 22 [] (.q [0, 1, 2, 3, 4, 5, 6, 7, 8, 9, 10, 11, 12, 13, 14, 15, 16, 17, 18, 19, 20, 21] .done) (by kernel_rfl) (by kernel_rfl) ?_
      have hbd := hbr.drew
      have hSd := hSr.ext (ext_drew wr)
      clear hbr hSr
      generalize World.drew _ = W at *
      have Hm := Lib.hid (Hh.out.ext hbd)
      obtain ⟨bk, off, C, cz, hA, -, -, c1, -, -, -, -⟩ := Hm.out.at ha
      obtain ⟨bk', off', C', cz', hA', -, -, d1, -, -, -, -⟩ := Hm.out.at hb
      rw [hA] at hA'
      cases hA'
      rw [hA] at hSd
      have c1 := Dr.cell0 c1
      have d1 := Dr.cell0 d1
      have q1 := Dr.cell0 (hSd.cell (i := 0) rfl)
      have q2 := Dr.cell0 (hSd.cell (i := 5) rfl)
      clear hA
      generalize (s.act a).ten = ta at *
      generalize (s.act b).ten = tb at *
      have h4 := mul_bd (a := s.dull) (b := max 0 (ta - tb)) hdu.1 hdu.2 (n := 100) (by omega) (by omega)
      refine Dr.plan_q (l := [_, _, _, _, _, _, _, _, _, _, _, _, _, _, _, _, _, _, _, _, _, _]) rfl (fun K hK => ?_)
      iterate 22 (go_big_quiet_step (fail))
      refine wpQuiet_nil (hK _ ?_); clear hK K c1 d1 q1 q2
      refine Dr.plan_end rfl ?_
      go_wp2
      refine bodyPost_ret (v := .tuple #[.int .i64 cm, .int .i64 (cm + s.dull * max 0 (ta - tb))]) (by simp [results, Try.results31, go_sem]) rfl ?_
      exact ⟨by rw [HC.out], hb0.trans (hbd.mono hb0.size)⟩
end Go.Proofs.Ytcnidhcdkbfpcaa

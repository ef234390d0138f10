/- Walks: the acts that may come first; the search is made. (Printed by mk_prgy.py.) -/
import Derived.Test.YtcnidhcdkbfpcaaPrgX
namespace Go.Pg
theorem toI_snoc (l : List Nat) (c : Nat) : toI (l ++ [c]) = toI l ++ [(c : Int)] := by simp [toI]
end Go.Pg
namespace Go.Proofs.Ytcnidhcdkbfpcaa
open Go.RowKit Go.Bs Go.Pg Go.Pl Go.Sort
set_option maxRecDepth 100000 in
set_option maxHeartbeats 2000000 in
theorem firsts_any (s : Sh) (p : ShP) (w : World) (h : ShM w s p) (hok : s.Ok) :
    Calls Try.prog 70 #[shV s p] w fun e w' => (∃ v, e = .returned v ∧ OwnL w' w.heap.size 3 1 encI v (toI s.firsts)) ∧ Below w.heap.size w w' := by
  have hb0 := ext_alloc w (.cells (shC s p).toArray 35)
  have hS := Blk.new w 35 (shC s p)
  have hs0 : (w.alloc (.cells (shC s p).toArray 35)).heap.size = w.heap.size + 1 := by simp
  have hn8 := hok.n8
  have CP := Lib.hid (fun i (hi : i < s.acts.length) W (hW : Below w.heap.size w W) => place_any s p i (-1) (-1) 0 W (h.ext hW) hi)
  have CW := Lib.hid (fun (y : AcV) i (hi : i < s.acts.length) (hy : y.a = s.act i) W (hW : Below w.heap.size w W) => why_any s p y i (-1) (-1) 0 W (h.ext hW) hok hi hy (by omega) (.inl ⟨rfl, rfl⟩))
  have Hf := Lib.hid (show ∀ c, s.first c = decide (s.why c (-1) (-1) 0 = 0) from fun _ => rfl)
  have Hhit := Lib.hid (fun c (h : s.first c = true) => show toI (firTo s (c + 1)) = toI (firTo s c) ++ [(c : Int)] by rw [firTo_hit h, toI_snoc])
  have Hmiss := Lib.hid (fun c (h : s.first c = false) => show toI (firTo s (c + 1)) = toI (firTo s c) by rw [firTo_miss h])
  have Hlen := Lib.hid (fun c => show (toI (firTo s c)).length ≤ c by rw [toI_len]; exact firTo_len s c)
  have H00 := Lib.hid (show toI (firTo s 0) = [] from rfl)
  have Hend := Lib.hid (show toI (firTo s s.acts.length) = toI s.firsts from rfl)
  generalize hFT : (fun c => toI (firTo s c)) = FT at *
  have e0 : ∀ c, toI (firTo s c) = FT c := fun c => by rw [← hFT]
  simp only [e0] at Hhit Hmiss Hlen H00 Hend
  generalize toI s.firsts = FL at *
  clear h hok hFT e0
  unfold shV at *
  unfold shC at *
  go_enter Try.func70, Try.ntmps70
  go_upto_region 1 with fail
  generalize w.alloc (.cells #[.slice p.A s.acts.length p.cA, .slice p.R s.rest.length p.cR, .slice p.I s.ins.length p.cI, .slice p.O s.outs.length p.cO, .int .i64 s.cover, .int .i64 s.dull, .slice p.B s.before.length p.cB] 35) = W0 at *
  have x0 : W0.cell? ⟨w.heap.size, 0, none⟩ = _ := hS.cell (i := 0) rfl
  go_wp2
  clear x0
  have Hs0 := Lib.hid hs0
  clear hs0
  go_loopw [2, 7] (fun v t wr => ∃ c : Nat, t = .int .i64 c ∧ c ≤ s.acts.length ∧ OwnL wr (w.heap.size + 1) 3 1 encI v (FT c) ∧ Below w.heap.size w wr ∧ Blk wr w.heap.size 35 [.slice p.A s.acts.length p.cA, .slice p.R s.rest.length p.cR, .slice p.I s.ins.length p.cI, .slice p.O s.outs.length p.cO, .int .i64 s.cover, .int .i64 s.dull, .slice p.B s.before.length p.cB] ∧ w.heap.size + 1 ≤ wr.heap.size)
    (fun _ t _ => s.acts.length - (intOf t).toNat)
  case atStart => exact ⟨0, rfl, by omega, by rw [H00.out]; exact OwnL.nil, hb0, hS, by have := Hs0.out; omega⟩
  case round =>
    obtain ⟨c, rfl, hcn, hown, hbr, hSr, hzr⟩ := hrel
    clear hb0 hS
    by_cases hlt : c < s.acts.length
    · have hlt' : (c : Int) < (s.acts.length : Int) := by omega
      have Hm := Lib.hid (Hf.out c)
      go_upto_region 4 with fail
      refine Dr.wp_region_plan 6 [] (.q [0, 1, 2] (.e1 3 (.e1 4 (.q [5] .done)))) (by kernel_rfl) (by kernel_rfl) ?_
      have hb1 := hbr.drew
      have hS1 := hSr.ext (ext_drew wr)
      have ho1 := hown.drew
      have hz1 : w.heap.size + 1 ≤ wr.drew.heap.size := hzr
      clear hbr hSr hown hzr
      generalize World.drew _ = W at *
      have q0 := Dr.cell0 (hS1.cell (i := 0) rfl)
      have q1 := Dr.cell0 (hS1.cell (i := 1) rfl)
      have q2 := Dr.cell0 (hS1.cell (i := 2) rfl)
      have q3 := Dr.cell0 (hS1.cell (i := 3) rfl)
      have q4 := Dr.cell0 (hS1.cell (i := 4) rfl)
      have q5 := Dr.cell0 (hS1.cell (i := 5) rfl)
      have q6 := Dr.cell0 (hS1.cell (i := 6) rfl)
      refine Dr.plan_q (l := [_, _, _]) rfl (fun K hK => ?_)
      iterate 3 (go_big_quiet_step (fail))
      refine wpQuiet_nil (hK _ ?_); clear hK K
      clear q0 q1 q2 q3 q4 q5 q6
      refine Dr.plan_e rfl (by rfl) (fun K hK => ?_)
      go_wp2_with fail
      refine (CP.out c hlt W hb1).mono ?_; rintro e W1 ⟨⟨y, -, hy, rfl⟩, hx1⟩
      refine hK _ _ (.of hx1) ?_; clear hK K
      have hb2 := hb1.trans (hx1.mono hb1.size)
      have hS2 := hS1.ext hx1
      have ho2 := ho1.ext hx1
      have hz2 := Nat.le_trans hz1 hx1.size
      clear hb1 hS1 ho1 hx1 hz1
      refine Dr.plan_e rfl (by rfl) (fun K hK => ?_)
      go_wp2_with fail
      refine (CW.out y c hlt hy W1 hb2).mono ?_; rintro e W2 ⟨rfl, hx2⟩
      refine hK _ _ (.of hx2) ?_; clear hK K
      have hb3 := hb2.trans (hx2.mono hb2.size)
      have hS3 := hS2.ext hx2
      have ho3 := ho2.ext hx2
      have hz3 := Nat.le_trans hz2 hx2.size
      clear hb2 hS2 ho2 hx2 hy hz2
      refine Dr.plan_q (l := [_]) rfl (fun K hK => ?_)
      iterate 1 (go_big_quiet_step (fail))
      refine wpQuiet_nil (hK _ ?_); clear hK K
      refine Dr.plan_end rfl ?_
      by_cases hw : s.why c (-1) (-1) 0 = 0
      · rw [hw] at Hm ⊢
        have Hft := Lib.hid (Hhit.out c (Hm.out.trans (by simp)))
        have hln := Hlen.out c
        have hnew := Blk.new W2 3 [.int .i64 (c : Int)]
        have hba := ext_alloc W2 (.cells #[.int .i64 (c : Int)] 3)
        clear hw Hm
        go_upto_region 6 with (at_builtin; refine app1 encI 23 3 1 8 et23 (by decide) (by decide) encI_len encI_one rfl _ _ rfl (w.heap.size + 1) _ (FT c) rfl (ho3.alloc _) W2.heap.size rfl (c : Int) (encI_cell (hnew.cell rfl)) (by omega) (by simp; omega) ?_; intro g' cap' V2 hown' hb7 hgr7 hat7; have hb8 : RowKit.Below (w.heap.size + 1) W2 V2 := (hba.mono (by omega)).trans hb7; have hown8 : OwnL V2 (w.heap.size + 1) 3 1 encI (.slice (some ⟨g', 0, none⟩) ((FT c).length + 1) cap') (FT (c + 1)) := (by rw [Hft.out]; exact hown'); have hb9 := hb3.trans (hb8.mono (by omega)); have hS9 : Blk V2 w.heap.size 35 [.slice p.A s.acts.length p.cA, .slice p.R s.rest.length p.cR, .slice p.I s.ins.length p.cI, .slice p.O s.outs.length p.cO, .int .i64 s.cover, .int .i64 s.dull, .slice p.B s.before.length p.cB] := (hb8.block w.heap.size (by omega)).trans hS3; have hz9 : w.heap.size + 1 ≤ V2.heap.size := Nat.le_trans hz3 hb8.size; clear hown' hb7 hgr7 hat7 hb8)
        clear hnew hba hb3 hS3 ho3 hz3
        go_wp2
        go_roundw
        case rel => exact ⟨c + 1, by go_num, by omega, hown8, hb9, hS9, hz9⟩
        case measure => simp [intOf]; omega
      · rw [show decide (s.why c (-1) (-1) 0 = 0) = false by simpa using hw] at Hm
        have Hft := Lib.hid (Hmiss.out c Hm.out)
        have hw3 := why_le s c (-1) (-1) 0
        generalize s.why c (-1) (-1) 0 = wv at *
        have hw0 : ((wv : Int) == 0) = false := by simp; omega
        clear hw Hm
        go_wp2
        go_roundw
        case rel => exact ⟨c + 1, by go_num, by omega, by rw [Hft.out]; exact ho3, hb3, hS3, hz3⟩
        case measure => simp [intOf]; omega
    · obtain rfl : c = s.acts.length := by omega
      go_wp2
      go_ret
      exact ⟨⟨_, rfl, by rw [← Hend.out]; exact OwnL.up hown (by omega)⟩, hbr⟩
set_option maxRecDepth 100000 in
set_option maxHeartbeats 2000000 in
theorem best_any (s : Sh) (p : ShP) (w : World) :
    Calls Try.prog 69 #[shV s p] w fun e w' => ∃ F S G O B, e = .returned (.tuple #[.map (some B), .func (.func 96) #[] #[.pointer (some ⟨F, 0, none⟩), .pointer (some ⟨S, 0, none⟩), .pointer (some ⟨G, 0, none⟩), .pointer (some ⟨O, 0, none⟩)]]) ∧ OfM w s p F S G O B w' ∧ MapG s w' B 0 := by
  have hmm := @run_makeMap Try.prog
  unfold shV
  go_enter Try.func69, Try.ntmps69
  go_upto_region 5 with fail
  have hOf : OfM w s p (w.heap.size + 1 + 1) w.heap.size (w.heap.size + 1 + 1 + 1 + 1) (w.heap.size + 1 + 1 + 1) (w.heap.size + 1) (((((w.alloc (.cells #[.slice p.A s.acts.length p.cA, .slice p.R s.rest.length p.cR, .slice p.I s.ins.length p.cI, .slice p.O s.outs.length p.cO, .int .i64 s.cover, .int .i64 s.dull, .slice p.B s.before.length p.cB] 35)).alloc (.map #[] 0)).alloc (.cells #[.map (some (w.heap.size + 1))] 109)).alloc (.cells #[.func (.func 96) #[] #[.pointer (some ⟨w.heap.size + 1 + 1, 0, none⟩), .pointer (some ⟨w.heap.size, 0, none⟩), .pointer (some ⟨w.heap.size + 1 + 1 + 1 + 1, 0, none⟩), .pointer (some ⟨w.heap.size + 1 + 1 + 1, 0, none⟩)]] 85)).alloc (.cells #[.func (.func 71) #[.agg #[.slice p.A s.acts.length p.cA, .slice p.R s.rest.length p.cR, .slice p.I s.ins.length p.cI, .slice p.O s.outs.length p.cO, .int .i64 s.cover, .int .i64 s.dull, .slice p.B s.before.length p.cB]] #[]] 114)) := by
    have s1 : (w.alloc (.cells #[.slice p.A s.acts.length p.cA, .slice p.R s.rest.length p.cR, .slice p.I s.ins.length p.cI, .slice p.O s.outs.length p.cO, .int .i64 s.cover, .int .i64 s.dull, .slice p.B s.before.length p.cB] 35)).heap.size = w.heap.size + 1 := by simp
    have s2 : ((w.alloc (.cells #[.slice p.A s.acts.length p.cA, .slice p.R s.rest.length p.cR, .slice p.I s.ins.length p.cI, .slice p.O s.outs.length p.cO, .int .i64 s.cover, .int .i64 s.dull, .slice p.B s.before.length p.cB] 35)).alloc (.map #[] 0)).heap.size = w.heap.size + 1 + 1 := by simp
    have s3 : (((w.alloc (.cells #[.slice p.A s.acts.length p.cA, .slice p.R s.rest.length p.cR, .slice p.I s.ins.length p.cI, .slice p.O s.outs.length p.cO, .int .i64 s.cover, .int .i64 s.dull, .slice p.B s.before.length p.cB] 35)).alloc (.map #[] 0)).alloc (.cells #[.map (some (w.heap.size + 1))] 109)).heap.size = w.heap.size + 1 + 1 + 1 := by simp
    have s4 : ((((w.alloc (.cells #[.slice p.A s.acts.length p.cA, .slice p.R s.rest.length p.cR, .slice p.I s.ins.length p.cI, .slice p.O s.outs.length p.cO, .int .i64 s.cover, .int .i64 s.dull, .slice p.B s.before.length p.cB] 35)).alloc (.map #[] 0)).alloc (.cells #[.map (some (w.heap.size + 1))] 109)).alloc (.cells #[.func (.func 96) #[] #[.pointer (some ⟨w.heap.size + 1 + 1, 0, none⟩), .pointer (some ⟨w.heap.size, 0, none⟩), .pointer (some ⟨w.heap.size + 1 + 1 + 1 + 1, 0, none⟩), .pointer (some ⟨w.heap.size + 1 + 1 + 1, 0, none⟩)]] 85)).heap.size = w.heap.size + 1 + 1 + 1 + 1 := by simp
    refine ⟨((((((Below.refl _ _).alloc (Nat.le_refl _) _).alloc (by simp) _).alloc (by simp; omega) _).alloc (by simp; omega) _).alloc (by simp; omega) _), ?_, ?_, ?_, ?_, by omega, by omega, by omega, by omega, by omega⟩
    · have h := (((Blk.new ((w.alloc (.cells #[.slice p.A s.acts.length p.cA, .slice p.R s.rest.length p.cR, .slice p.I s.ins.length p.cI, .slice p.O s.outs.length p.cO, .int .i64 s.cover, .int .i64 s.dull, .slice p.B s.before.length p.cB] 35)).alloc (.map #[] 0)) 109 [.map (some (w.heap.size + 1))]).alloc (.cells #[.func (.func 96) #[] #[.pointer (some ⟨w.heap.size + 1 + 1, 0, none⟩), .pointer (some ⟨w.heap.size, 0, none⟩), .pointer (some ⟨w.heap.size + 1 + 1 + 1 + 1, 0, none⟩), .pointer (some ⟨w.heap.size + 1 + 1 + 1, 0, none⟩)]] 85)).alloc (.cells #[.func (.func 71) #[.agg #[.slice p.A s.acts.length p.cA, .slice p.R s.rest.length p.cR, .slice p.I s.ins.length p.cI, .slice p.O s.outs.length p.cO, .int .i64 s.cover, .int .i64 s.dull, .slice p.B s.before.length p.cB]] #[]] 114))
      rw [s2] at h
      exact h
    · exact ((((Blk.new w 35 (shC s p)).alloc (.map #[] 0)).alloc (.cells #[.map (some (w.heap.size + 1))] 109)).alloc (.cells #[.func (.func 96) #[] #[.pointer (some ⟨w.heap.size + 1 + 1, 0, none⟩), .pointer (some ⟨w.heap.size, 0, none⟩), .pointer (some ⟨w.heap.size + 1 + 1 + 1 + 1, 0, none⟩), .pointer (some ⟨w.heap.size + 1 + 1 + 1, 0, none⟩)]] 85)).alloc (.cells #[.func (.func 71) #[.agg #[.slice p.A s.acts.length p.cA, .slice p.R s.rest.length p.cR, .slice p.I s.ins.length p.cI, .slice p.O s.outs.length p.cO, .int .i64 s.cover, .int .i64 s.dull, .slice p.B s.before.length p.cB]] #[]] 114)
    · have h := Blk.new ((((w.alloc (.cells #[.slice p.A s.acts.length p.cA, .slice p.R s.rest.length p.cR, .slice p.I s.ins.length p.cI, .slice p.O s.outs.length p.cO, .int .i64 s.cover, .int .i64 s.dull, .slice p.B s.before.length p.cB] 35)).alloc (.map #[] 0)).alloc (.cells #[.map (some (w.heap.size + 1))] 109)).alloc (.cells #[.func (.func 96) #[] #[.pointer (some ⟨w.heap.size + 1 + 1, 0, none⟩), .pointer (some ⟨w.heap.size, 0, none⟩), .pointer (some ⟨w.heap.size + 1 + 1 + 1 + 1, 0, none⟩), .pointer (some ⟨w.heap.size + 1 + 1 + 1, 0, none⟩)]] 85)) 114 [.func (.func 71) #[shV s p] #[]]
      rw [s4] at h
      exact h
    · have h := (Blk.new (((w.alloc (.cells #[.slice p.A s.acts.length p.cA, .slice p.R s.rest.length p.cR, .slice p.I s.ins.length p.cI, .slice p.O s.outs.length p.cO, .int .i64 s.cover, .int .i64 s.dull, .slice p.B s.before.length p.cB] 35)).alloc (.map #[] 0)).alloc (.cells #[.map (some (w.heap.size + 1))] 109)) 85 [.func (.func 96) #[] #[.pointer (some ⟨w.heap.size + 1 + 1, 0, none⟩), .pointer (some ⟨w.heap.size, 0, none⟩), .pointer (some ⟨w.heap.size + 1 + 1 + 1 + 1, 0, none⟩), .pointer (some ⟨w.heap.size + 1 + 1 + 1, 0, none⟩)]]).alloc (.cells #[.func (.func 71) #[.agg #[.slice p.A s.acts.length p.cA, .slice p.R s.rest.length p.cR, .slice p.I s.ins.length p.cI, .slice p.O s.outs.length p.cO, .int .i64 s.cover, .int .i64 s.dull, .slice p.B s.before.length p.cB]] #[]] 114)
      rw [s3] at h
      exact h
  have hMg : MapG s (((((w.alloc (.cells #[.slice p.A s.acts.length p.cA, .slice p.R s.rest.length p.cR, .slice p.I s.ins.length p.cI, .slice p.O s.outs.length p.cO, .int .i64 s.cover, .int .i64 s.dull, .slice p.B s.before.length p.cB] 35)).alloc (.map #[] 0)).alloc (.cells #[.map (some (w.heap.size + 1))] 109)).alloc (.cells #[.func (.func 96) #[] #[.pointer (some ⟨w.heap.size + 1 + 1, 0, none⟩), .pointer (some ⟨w.heap.size, 0, none⟩), .pointer (some ⟨w.heap.size + 1 + 1 + 1 + 1, 0, none⟩), .pointer (some ⟨w.heap.size + 1 + 1 + 1, 0, none⟩)]] 85)).alloc (.cells #[.func (.func 71) #[.agg #[.slice p.A s.acts.length p.cA, .slice p.R s.rest.length p.cR, .slice p.I s.ins.length p.cI, .slice p.O s.outs.length p.cO, .int .i64 s.cover, .int .i64 s.dull, .slice p.B s.before.length p.cB]] #[]] 114)) (w.heap.size + 1) 0 := by
    have h := ((((MapG.made s (w.alloc (.cells #[.slice p.A s.acts.length p.cA, .slice p.R s.rest.length p.cR, .slice p.I s.ins.length p.cI, .slice p.O s.outs.length p.cO, .int .i64 s.cover, .int .i64 s.dull, .slice p.B s.before.length p.cB] 35))).alloc (.cells #[.map (some (w.heap.size + 1))] 109)).alloc (.cells #[.func (.func 96) #[] #[.pointer (some ⟨w.heap.size + 1 + 1, 0, none⟩), .pointer (some ⟨w.heap.size, 0, none⟩), .pointer (some ⟨w.heap.size + 1 + 1 + 1 + 1, 0, none⟩), .pointer (some ⟨w.heap.size + 1 + 1 + 1, 0, none⟩)]] 85)).alloc (.cells #[.func (.func 71) #[.agg #[.slice p.A s.acts.length p.cA, .slice p.R s.rest.length p.cR, .slice p.I s.ins.length p.cI, .slice p.O s.outs.length p.cO, .int .i64 s.cover, .int .i64 s.dull, .slice p.B s.before.length p.cB]] #[]] 114))
    rw [show (w.alloc (.cells #[.slice p.A s.acts.length p.cA, .slice p.R s.rest.length p.cR, .slice p.I s.ins.length p.cI, .slice p.O s.outs.length p.cO, .int .i64 s.cover, .int .i64 s.dull, .slice p.B s.before.length p.cB] 35)).heap.size = w.heap.size + 1 by simp] at h
    exact h
  generalize ((((w.alloc (.cells #[.slice p.A s.acts.length p.cA, .slice p.R s.rest.length p.cR, .slice p.I s.ins.length p.cI, .slice p.O s.outs.length p.cO, .int .i64 s.cover, .int .i64 s.dull, .slice p.B s.before.length p.cB] 35)).alloc (.map #[] 0)).alloc (.cells #[.map (some (w.heap.size + 1))] 109)).alloc (.cells #[.func (.func 96) #[] #[.pointer (some ⟨w.heap.size + 1 + 1, 0, none⟩), .pointer (some ⟨w.heap.size, 0, none⟩), .pointer (some ⟨w.heap.size + 1 + 1 + 1 + 1, 0, none⟩), .pointer (some ⟨w.heap.size + 1 + 1 + 1, 0, none⟩)]] 85)).alloc (.cells #[.func (.func 71) #[.agg #[.slice p.A s.acts.length p.cA, .slice p.R s.rest.length p.cR, .slice p.I s.ins.length p.cI, .slice p.O s.outs.length p.cO, .int .i64 s.cover, .int .i64 s.dull, .slice p.B s.before.length p.cB]] #[]] 114) = V0 at *
  refine Dr.wp_region_plan 4 [] (.q [0, 1, 2, 3] .done) (by kernel_rfl) (by kernel_rfl) ?_
  have hOf1 := hOf.ext (ext_drew V0)
  have hMg1 := hMg.ext (ext_drew V0)
  clear hOf hMg
  generalize World.drew _ = V at *
  have q0 := Dr.cell0 (hOf1.f.cell (i := 0) rfl)
  have q1 := Dr.cell0 (hOf1.o.cell (i := 0) rfl)
  refine Dr.plan_q (l := [_, _, _, _]) rfl (fun K hK => ?_)
  iterate 4 (go_big_quiet_step (fail))
  refine wpQuiet_nil (hK _ ?_); clear hK K
  refine Dr.plan_end rfl ?_
  clear q0 q1
  go_wp2
  refine bodyPost_ret (v := .tuple #[.map (some (w.heap.size + 1)), .func (.func 96) #[] #[.pointer (some ⟨w.heap.size + 1 + 1, 0, none⟩), .pointer (some ⟨w.heap.size, 0, none⟩), .pointer (some ⟨w.heap.size + 1 + 1 + 1 + 1, 0, none⟩), .pointer (some ⟨w.heap.size + 1 + 1 + 1, 0, none⟩)]]) (by simp [results, Try.results69, go_sem]) rfl ?_
  exact ⟨_, _, _, _, _, rfl, hOf1, hMg1⟩
end Go.Proofs.Ytcnidhcdkbfpcaa

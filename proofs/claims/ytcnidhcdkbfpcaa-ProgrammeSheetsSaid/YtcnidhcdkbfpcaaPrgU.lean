/- Walk: the acts that may follow. (Printed by mk_prgo.py.) -/
import Derived.Test.YtcnidhcdkbfpcaaPrgO
namespace Go.Bs
open Go.RowKit
theorem OwnL.up {α : Type} {w : World} {base b2 : Nat} {e : TypeId} {sz : Nat} {enc : α → List Value} {v : Value} {l : List α} (h : OwnL w base e sz enc v l) (hb : b2 ≤ base) : OwnL w b2 e sz enc v l := by
  obtain ⟨h1, h2⟩ := h
  refine ⟨h1, h2.imp id ?_⟩
  rintro ⟨g, cap, cur, h3, h4, h5⟩
  exact ⟨g, cap, cur, h3, Nat.le_trans hb h4, h5⟩
end Go.Bs
namespace Go.Proofs.Ytcnidhcdkbfpcaa
open Go.RowKit Go.Bs Go.Pg Go.Pl Go.Sort
set_option maxRecDepth 100000 in
set_option maxHeartbeats 4000000 in
theorem follows_any (s : Sh) (p : ShP) (x : St) (w : World) (h : ShM w s p) (hok : s.Ok) (hx : StOk s x) :
    Calls Try.prog 71 #[shV s p, St.val x] w fun e w' => (∃ v, e = .returned v ∧ OwnL w' w.heap.size 117 5 Nx.enc v (s.fol x)) ∧ Below w.heap.size w w' := by
  have hs := hx.lt hok
  have hn8 := hok.n8
  have hl := hx.last
  have hc := hx.sec
  have hset := hx.set
  have CP := Lib.hid (fun i (hi : i < s.acts.length) (last sec : Int) (set : Nat) W (hW : Below w.heap.size w W) => place_any s p i last sec set W (h.ext hW) hi)
  have CW := Lib.hid (fun (y : AcV) i (hi : i < s.acts.length) (hy : y.a = s.act i) W (hW : Below w.heap.size w W) => why_any s p y i x.last (Sh.secI x) x.set W (h.ext hW) hok hi hy hs (.inr ⟨x.last, hl, rfl, by
    unfold Sh.secI
    by_cases e : x.sec = x.last
    · rw [if_pos e]; exact .inl rfl
    · rw [if_neg e]; exact .inr ⟨x.sec, hc, rfl⟩⟩))
  have CC := Lib.hid (fun (j : Nat) (hj : j < s.acts.length) W (hW : Below w.heap.size w W) => change_any s p x.last j W (h.ext hW) hok hl hj)
  have HCB := Lib.hid (fun a b => hok.chC a b)
  have Hsec := Lib.hid (show (if x.sec = x.last then -1 else (x.sec : Int)) = Sh.secI x from rfl)
  have Hmay := Lib.hid (show ∀ c, s.may x c = (!x.set.testBit c && decide (s.why c x.last (Sh.secI x) x.set = 0)) from fun _ => rfl)
  have Hnx := Lib.hid (show ∀ c, s.nx x c = ⟨c, s.chC x.last c, ⟨x.set ||| 2 ^ c, c, x.last⟩⟩ from fun _ => rfl)
  have Hhit := Lib.hid (fun c (h : s.may x c = true) => folTo_hit h)
  have Hmiss := Lib.hid (fun c (h : s.may x c = false) => folTo_miss h)
  have Hlen := Lib.hid (fun c => folTo_len s x c)
  have H00 := Lib.hid (show folTo s x 0 = [] from rfl)
  have Hend := Lib.hid (show folTo s x s.acts.length = s.fol x from rfl)
  have hb0 : Below w.heap.size w ((w.alloc (.cells (shC s p).toArray 35)).alloc (.cells (stC x).toArray 90)) := ((Below.refl _ _).alloc (Nat.le_refl _) _).alloc (by simp) _
  have hS := (Blk.new w 35 (shC s p)).alloc (.cells (stC x).toArray 90)
  have hX := Blk.new (w.alloc (.cells (shC s p).toArray 35)) 90 (stC x)
  have hsz : ((w.alloc (.cells (shC s p).toArray 35)).alloc (.cells (stC x).toArray 90)).heap.size = w.heap.size + 2 := by simp
  simp only [World.size_alloc] at hX
  generalize hFT : folTo s x = FT at *
  generalize s.fol x = FL at *
  generalize Sh.secI x = sI at *
  generalize hmm : s.may x = may at *
  generalize hnn : s.nx x = nx at *
  clear h hok hx hFT hmm hnn
  obtain ⟨set, last, sec⟩ := x
  simp only at hs hl hc hset Hsec Hmay Hnx CP CW CC
  unfold St.val
  unfold stC shC at hb0 hS hX hsz
  simp only at hb0 hS hX hsz
  unfold shV at *
  go_enter Try.func71, Try.ntmps71
  go_upto_region 1 with fail
  change Blk ((w.alloc (.cells #[.slice p.A s.acts.length p.cA, .slice p.R s.rest.length p.cR, .slice p.I s.ins.length p.cI, .slice p.O s.outs.length p.cO, .int .i64 s.cover, .int .i64 s.dull, .slice p.B s.before.length p.cB] 35)).alloc (.cells #[.int .u16 set, .int .i64 last, .int .i64 sec] 90)) _ _ _ at hS hX
  change Below w.heap.size w ((w.alloc (.cells #[.slice p.A s.acts.length p.cA, .slice p.R s.rest.length p.cR, .slice p.I s.ins.length p.cI, .slice p.O s.outs.length p.cO, .int .i64 s.cover, .int .i64 s.dull, .slice p.B s.before.length p.cB] 35)).alloc (.cells #[.int .u16 set, .int .i64 last, .int .i64 sec] 90)) at hb0
  change ((w.alloc (.cells #[.slice p.A s.acts.length p.cA, .slice p.R s.rest.length p.cR, .slice p.I s.ins.length p.cI, .slice p.O s.outs.length p.cO, .int .i64 s.cover, .int .i64 s.dull, .slice p.B s.before.length p.cB] 35)).alloc (.cells #[.int .u16 set, .int .i64 last, .int .i64 sec] 90)).heap.size = _ at hsz
  generalize (w.alloc (.cells #[.slice p.A s.acts.length p.cA, .slice p.R s.rest.length p.cR, .slice p.I s.ins.length p.cI, .slice p.O s.outs.length p.cO, .int .i64 s.cover, .int .i64 s.dull, .slice p.B s.before.length p.cB] 35)).alloc (.cells #[.int .u16 set, .int .i64 last, .int .i64 sec] 90) = W0 at *
  have x1 : W0.cell? ⟨w.heap.size + 1, 1, none⟩ = _ := hX.cell (i := 1) rfl
  have x2 : W0.cell? ⟨w.heap.size + 1, 2, none⟩ = _ := hX.cell (i := 2) rfl
  have x0 : W0.cell? ⟨w.heap.size, 0, none⟩ = _ := hS.cell (i := 0) rfl
  go_upto_if 14 with fail
  go_cut [5] (fun v W => v = .int .i64 sI ∧ W = W0)
  case first =>
    by_cases he : sec = last
    · have he' : ((sec : Int) == last) = true := by simp; omega
      have hI : sI = -1 := by rw [← Hsec.out, if_pos he]
      subst hI
      go_wp2
      go_meet
      case rel => exact ⟨rfl, rfl⟩
    · have he' : ((sec : Int) == last) = false := by simp; omega
      have hI : sI = sec := by rw [← Hsec.out, if_neg he]
      subst hI
      go_wp2
      go_meet
      case rel => exact ⟨rfl, rfl⟩
  case rest =>
    obtain ⟨rfl, rfl⟩ := hcut
    have Hsz := Lib.hid hsz
    clear x1 x2 Hsec hsz
    go_wp2
    clear x0
    go_loopw [4, 18] (fun v t wr => ∃ c : Nat, t = .int .i64 c ∧ c ≤ s.acts.length ∧ OwnL wr (w.heap.size + 2) 117 5 Nx.enc v (FT c) ∧ Below w.heap.size w wr ∧ Blk wr w.heap.size 35 [.slice p.A s.acts.length p.cA, .slice p.R s.rest.length p.cR, .slice p.I s.ins.length p.cI, .slice p.O s.outs.length p.cO, .int .i64 s.cover, .int .i64 s.dull, .slice p.B s.before.length p.cB] ∧ Blk wr (w.heap.size + 1) 90 [.int .u16 set, .int .i64 last, .int .i64 sec] ∧ w.heap.size + 2 ≤ wr.heap.size)
      (fun _ t _ => s.acts.length - (intOf t).toNat)
    case atStart => exact ⟨0, rfl, by omega, by rw [H00.out]; exact OwnL.nil, hb0, hS, hX, by have := Hsz.out; omega⟩
    case round =>
      obtain ⟨c, rfl, hcn, hown, hbr, hSr, hXr, hzr⟩ := hrel
      clear hb0 hS hX
      by_cases hlt : c < s.acts.length
      · have hlt' : (c : Int) < (s.acts.length : Int) := by omega
        have hbit := bit16 set c hs
        have hmay := Hmay.out c
        cases hb : set.testBit c
        · rw [hb] at hbit hmay
          simp only [Bool.false_eq_true, if_false] at hbit
          rw [Bool.not_false, Bool.true_and] at hmay
          have Hm := Lib.hid hmay
          clear hmay hb
          go_upto_region 7 with fail
          refine Dr.wp_region_plan 19 [] (.q [0, 1, 2, 3, 4, 5, 6, 7, 8, 9, 10, 11, 12, 13, 14] (.e1 15 (.e1 16 (.q [17, 18] .done)))) (by kernel_rfl) (by kernel_rfl) ?_
          have hb1 := hbr.drew
          have hS1 := hSr.ext (ext_drew wr)
          have hX1 := hXr.ext (ext_drew wr)
          have ho1 := hown.drew
          have hz1 : w.heap.size + 2 ≤ wr.drew.heap.size := hzr
          clear hbr hSr hXr hown hzr
          generalize World.drew _ = W at *
          have q0 := Dr.cell0 (hS1.cell (i := 0) rfl)
          have q1 := Dr.cell0 (hS1.cell (i := 1) rfl)
          have q2 := Dr.cell0 (hS1.cell (i := 2) rfl)
          have q3 := Dr.cell0 (hS1.cell (i := 3) rfl)
          have q4 := Dr.cell0 (hS1.cell (i := 4) rfl)
          have q5 := Dr.cell0 (hS1.cell (i := 5) rfl)
          have q6 := Dr.cell0 (hS1.cell (i := 6) rfl)
          have r0 := Dr.cell0 (hX1.cell (i := 0) rfl)
          have r1 := Dr.cell0 (hX1.cell (i := 1) rfl)
          have r2 := Dr.cell0 (hX1.cell (i := 2) rfl)
          refine Dr.plan_q (l := [_, _, _, _, _, _, _, _, _, _, _, _, _, _, _]) rfl (fun K hK => ?_)
          iterate 15 (go_big_quiet_step (fail))
          refine wpQuiet_nil (hK _ ?_); clear hK K
          clear q0 q1 q2 q3 q4 q5 q6 r0 r1 r2
          refine Dr.plan_e rfl (by rfl) (fun K hK => ?_)
          go_wp2_with fail
          refine (CP.out c hlt last sI set W hb1).mono ?_; rintro e W1 ⟨⟨y, -, hy, rfl⟩, hx1⟩
          refine hK _ _ (.of hx1) ?_; clear hK K
          have hb2 := hb1.trans (hx1.mono hb1.size)
          have hS2 := hS1.ext hx1
          have hX2 := hX1.ext hx1
          have ho2 := ho1.ext hx1
          have hz2 := Nat.le_trans hz1 hx1.size
          clear hb1 hS1 hX1 ho1 hx1 hz1
          refine Dr.plan_e rfl (by rfl) (fun K hK => ?_)
          go_wp2_with fail
          refine (CW.out y c hlt hy W1 hb2).mono ?_; rintro e W2 ⟨rfl, hx2⟩
          refine hK _ _ (.of hx2) ?_; clear hK K
          have hb3 := hb2.trans (hx2.mono hb2.size)
          have hS3 := hS2.ext hx2
          have hX3 := hX2.ext hx2
          have ho3 := ho2.ext hx2
          have hz3 := Nat.le_trans hz2 hx2.size
          clear hb2 hS2 hX2 ho2 hx2 hy hz2
          refine Dr.plan_q (l := [_, _]) rfl (fun K hK => ?_)
          iterate 2 (go_big_quiet_step (fail))
          refine wpQuiet_nil (hK _ ?_); clear hK K
          refine Dr.plan_end rfl ?_
          by_cases hw : s.why c last sI set = 0
          · rw [hw] at Hm ⊢
            have hft := Hhit.out c (Hm.out.trans (by simp))
            rw [Hnx.out] at hft
            have Hft := Lib.hid hft
            have hor := or16 set c hs (by omega)
            have hcb := HCB.out last c
            clear hft hw Hm hbit
            have y0 : W2.cell? ⟨w.heap.size, 0, none⟩ = _ := hS3.cell (i := 0) rfl
            have y1 : W2.cell? ⟨w.heap.size, 1, none⟩ = _ := hS3.cell (i := 1) rfl
            have y2 : W2.cell? ⟨w.heap.size, 2, none⟩ = _ := hS3.cell (i := 2) rfl
            have y3 : W2.cell? ⟨w.heap.size, 3, none⟩ = _ := hS3.cell (i := 3) rfl
            have y4 : W2.cell? ⟨w.heap.size, 4, none⟩ = _ := hS3.cell (i := 4) rfl
            have y5 : W2.cell? ⟨w.heap.size, 5, none⟩ = _ := hS3.cell (i := 5) rfl
            have y6 : W2.cell? ⟨w.heap.size, 6, none⟩ = _ := hS3.cell (i := 6) rfl
            have z1 : W2.cell? ⟨w.heap.size + 1, 1, none⟩ = _ := hX3.cell (i := 1) rfl
            go_wp2_with fail
            refine (CC.out c hlt W2 hb3).mono ?_; rintro e W3 ⟨rfl, hx3⟩
            have hb4 := hb3.trans (hx3.mono hb3.size)
            have hS4 := hS3.ext hx3
            have hX4 := hX3.ext hx3
            have ho4 := ho3.ext hx3
            have hz4 := Nat.le_trans hz3 hx3.size
            clear hb3 hS3 hX3 ho3 hx3 y0 y1 y2 y3 y4 y5 y6 z1 hz3
            generalize s.chC last c = cc at *
            go_upto_region 9 with fail
            refine Dr.wp_region_plan 14 [] (.q [0, 1, 2, 3, 4, 5, 6, 7, 8, 9, 10, 11, 12] (.e1 13 .done)) (by kernel_rfl) (by kernel_rfl) ?_
            have hb5 := hb4.drew
            have hS5 := hS4.ext (ext_drew W3)
            have hX5 := hX4.ext (ext_drew W3)
            have ho5 := ho4.drew
            have hz5 : w.heap.size + 2 ≤ W3.drew.heap.size := hz4
            clear hb4 hS4 hX4 ho4 hz4
            generalize World.drew _ = V at *
            have r0 := Dr.cell0 (hX5.cell (i := 0) rfl)
            have r1 := Dr.cell0 (hX5.cell (i := 1) rfl)
            refine Dr.plan_q (l := [_, _, _, _, _, _, _, _, _, _, _, _, _]) rfl (fun K hK => ?_)
            iterate 13 (go_big_quiet_step (fail))
            refine wpQuiet_nil (hK _ ?_); clear hK K
            clear r0 r1
            have hln := Hlen.out c
            refine Dr.plan_e rfl (by rfl) (fun K hK => ?_)
            go_wp2_with fail
            refine hK _ _ (.of (ext_alloc _ _)) ?_; clear hK K
            have hnew := Blk.new V 117 (Nx.enc ⟨c, cc, ⟨set ||| 2 ^ c, c, last⟩⟩)
            have hx6 := ext_alloc V (.cells (Nx.enc ⟨c, cc, ⟨set ||| 2 ^ c, c, last⟩⟩).toArray 117)
            have hb6 := hb5.trans (hx6.mono hb5.size)
            have hS6 := hS5.ext hx6
            have hX6 := hX5.ext hx6
            have ho6 := ho5.ext hx6
            have hz6 := Nat.le_trans hz5 hx6.size
            clear hb5 hS5 hX5 ho5 hx6
            change Blk (V.alloc (.cells #[.int .i64 c, .int .i64 cc, .int .u16 ((set ||| 2 ^ c : Nat) : Int), .int .i64 c, .int .i64 last] 117)) _ _ _ at hnew hS6 hX6
            change Below w.heap.size w (V.alloc (.cells #[.int .i64 c, .int .i64 cc, .int .u16 ((set ||| 2 ^ c : Nat) : Int), .int .i64 c, .int .i64 last] 117)) at hb6
            change OwnL (V.alloc (.cells #[.int .i64 c, .int .i64 cc, .int .u16 ((set ||| 2 ^ c : Nat) : Int), .int .i64 c, .int .i64 last] 117)) _ _ _ _ _ _ at ho6
            change w.heap.size + 2 ≤ (V.alloc (.cells #[.int .i64 c, .int .i64 cc, .int .u16 ((set ||| 2 ^ c : Nat) : Int), .int .i64 c, .int .i64 last] 117)).heap.size at hz6
            generalize V.alloc (.cells #[.int .i64 c, .int .i64 cc, .int .u16 ((set ||| 2 ^ c : Nat) : Int), .int .i64 c, .int .i64 last] 117) = V2 at *
            generalize V.heap.size = N at *
            refine Dr.plan_done (tl := [_, _]) rfl ?_
            refine app1 Nx.enc 113 117 5 40 et113 (by decide) (by decide) nx_len nx_one rfl _ _ rfl (w.heap.size + 2) _ (FT c) rfl ho6 N rfl ⟨c, cc, ⟨set ||| 2 ^ c, c, last⟩⟩ (fun j u hu => hnew.cell hu) (by omega) hz6 ?_
            intro g' cap' V3 hown' hb7 hgr7 hat7
            have hown8 : OwnL V3 (w.heap.size + 2) 117 5 Nx.enc (.slice (some ⟨g', 0, none⟩) ((FT c).length + 1) cap') (FT (c + 1)) := by (rw [Hft.out]; exact hown')
            have hb8 := hb6.trans (hb7.mono (by omega))
            have hS8 : Blk V3 w.heap.size 35 [.slice p.A s.acts.length p.cA, .slice p.R s.rest.length p.cR, .slice p.I s.ins.length p.cI, .slice p.O s.outs.length p.cO, .int .i64 s.cover, .int .i64 s.dull, .slice p.B s.before.length p.cB] := (hb7.block w.heap.size (by omega)).trans hS6
            have hX8 : Blk V3 (w.heap.size + 1) 90 [.int .u16 set, .int .i64 last, .int .i64 sec] := (hb7.block (w.heap.size + 1) (by omega)).trans hX6
            have hz8 : w.heap.size + 2 ≤ V3.heap.size := Nat.le_trans hz6 hb7.size
            clear hown' hb7 hgr7 hat7 hb6 hS6 hX6 ho6 hnew
            go_wp2
            go_roundw
            case rel => exact ⟨c + 1, by go_num, by omega, hown8, hb8, hS8, hX8, hz8⟩
            case measure => simp [intOf]; omega
          · rw [show decide (s.why c last sI set = 0) = false by simpa using hw] at Hm
            have Hft := Lib.hid (Hmiss.out c Hm.out)
            have hw3 := why_le s c last sI set
            generalize s.why c last sI set = wv at *
            have hw0 : ((wv : Int) != 0) = true := by simp; omega
            clear hw Hm
            go_wp2
            go_roundw
            case rel => exact ⟨c + 1, by go_num, by omega, by rw [Hft.out]; exact ho3, hb3, hS3, hX3, hz3⟩
            case measure => simp [intOf]; omega
        · rw [hb] at hbit hmay
          simp only [if_true] at hbit
          rw [Bool.not_true, Bool.false_and] at hmay
          have Hft := Lib.hid (Hmiss.out c hmay)
          clear hmay hb
          go_upto_region 7 with fail
          refine Dr.wp_region_plan 19 [] (.q [0, 1, 2, 3, 4, 5, 6, 7, 8, 9, 10, 11, 12, 13, 14] (.e1 15 (.e1 16 (.q [17, 18] .done)))) (by kernel_rfl) (by kernel_rfl) ?_
          have hb1 := hbr.drew
          have hS1 := hSr.ext (ext_drew wr)
          have hX1 := hXr.ext (ext_drew wr)
          have ho1 := hown.drew
          have hz1 : w.heap.size + 2 ≤ wr.drew.heap.size := hzr
          clear hbr hSr hXr hown hzr
          generalize World.drew _ = W at *
          have q0 := Dr.cell0 (hS1.cell (i := 0) rfl)
          have q1 := Dr.cell0 (hS1.cell (i := 1) rfl)
          have q2 := Dr.cell0 (hS1.cell (i := 2) rfl)
          have q3 := Dr.cell0 (hS1.cell (i := 3) rfl)
          have q4 := Dr.cell0 (hS1.cell (i := 4) rfl)
          have q5 := Dr.cell0 (hS1.cell (i := 5) rfl)
          have q6 := Dr.cell0 (hS1.cell (i := 6) rfl)
          have r0 := Dr.cell0 (hX1.cell (i := 0) rfl)
          have r1 := Dr.cell0 (hX1.cell (i := 1) rfl)
          have r2 := Dr.cell0 (hX1.cell (i := 2) rfl)
          refine Dr.plan_q (l := [_, _, _, _, _, _, _, _, _, _, _, _, _, _, _]) rfl (fun K hK => ?_)
          iterate 15 (go_big_quiet_step (fail))
          refine wpQuiet_nil (hK _ ?_); clear hK K
          clear q0 q1 q2 q3 q4 q5 q6 r0 r1 r2
          refine Dr.plan_e_skip rfl (by rfl) ?_; go_frame
          refine Dr.plan_e_skip rfl (by rfl) ?_; go_frame
          refine Dr.plan_q (l := [_, _]) rfl (fun K hK => ?_)
          iterate 2 (go_big_quiet_step (fail))
          refine wpQuiet_nil (hK _ ?_); clear hK K
          refine Dr.plan_end rfl ?_
          go_wp2
          go_roundw
          case rel => exact ⟨c + 1, by go_num, by omega, by rw [Hft.out]; exact ho1, hb1, hS1, hX1, hz1⟩
          case measure => simp [intOf]; omega
      · obtain rfl : c = s.acts.length := by omega
        go_wp2
        go_ret
        exact ⟨⟨_, rfl, by rw [← Hend.out]; exact (OwnL.up hown (by omega))⟩, hbr⟩
end Go.Proofs.Ytcnidhcdkbfpcaa

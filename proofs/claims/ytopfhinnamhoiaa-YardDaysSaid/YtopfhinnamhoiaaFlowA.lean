/- Walk: flows. -/
import Derived.Maps.RangeWalk
import Derived.Sort.CutIn
import Derived.Test.YtopfhinnamhoiaaGridC
namespace Go.Proofs.Ytopfhinnamhoiaa
open Go.RowKit Go.Bs Go.Yd Go.Pl Go.Sort

/-- What flows hands back: the rows of the flows and the drops. -/
def FlPost (g : Gd) (w : World) (e : Ending) (w' : World) : Prop :=
  ∃ Bf Bd : Nat, e = .returned (.tuple #[.slice (some ⟨Bf, 0, none⟩) g.nodes.length g.nodes.length, .slice (some ⟨Bd, 0, none⟩) g.nodes.length g.nodes.length]) ∧
    Below w.heap.size w w' ∧ IArr w' Bf 73 (tab (2 * g.nodes.length) (il (g.flow g.lo) (g.flow g.hi))) ∧ IArr w' Bd 73 (tab (2 * g.nodes.length) (il (g.drop (g.flow g.lo)) (g.drop (g.flow g.hi)))) ∧ w.heap.size ≤ Bf ∧ w.heap.size ≤ Bd ∧ Bf ≠ Bd

attribute [local go_sem] Oper.semAt_some
set_option maxRecDepth 100000 in
set_option maxHeartbeats 4000000 in
theorem flows_any (g : Gd) (A : Option Addr) (n cap : Nat) (w : World) (hok : g.ok) (hn : g.nodes.length = n) (hcap : n ≤ cap) (hA : ∀ k, A.map (·.block) = some k → k < w.heap.size) (hd : GdAt w A g) :
    Calls Try.prog 76 #[.agg #[.slice A n cap, .int .i64 g.limit]] w (FlPost g w) := by
  have hn30 := hok.len
  have hmk := mk67 n (by omega)
  refine (callsIn_wide (n := 20)).1 (callsIn_of_wp_marks Try.func76 rfl trivial ?_)
  simp only [Try.ntmps76, List.size_toArray, List.length_cons, List.length_nil, Nat.reduceAdd, Nat.reduceSub, Array.replicate_succ, Array.replicate_zero, List.push_toArray, List.append_toArray, List.nil_append, List.cons_append]
  refine wpIn_wide.2 ?_
  go_upto_region 1 with fail
  have hb0 : Below w.heap.size w ((w.alloc (.cells #[.slice A n cap, .int .i64 g.limit] 43)).alloc (.cells #[.slice none 0 0] 67)) := ((Below.refl _ _).alloc (Nat.le_refl _) _).alloc (by simp) _
  have h1 : Blk ((w.alloc (.cells #[.slice A n cap, .int .i64 g.limit] 43)).alloc (.cells #[.slice none 0 0] 67)) w.heap.size 43 [.slice A n cap, .int .i64 g.limit] := (Blk.new w 43 [.slice A n cap, .int .i64 g.limit]).alloc _
  have h2 : Blk ((w.alloc (.cells #[.slice A n cap, .int .i64 g.limit] 43)).alloc (.cells #[.slice none 0 0] 67)) (w.heap.size + 1) 67 [.slice none 0 0] := by
    have := Blk.new (w.alloc (.cells #[.slice A n cap, .int .i64 g.limit] 43)) 67 [.slice none 0 0]
    simpa using this
  have hsz : ((w.alloc (.cells #[.slice A n cap, .int .i64 g.limit] 43)).alloc (.cells #[.slice none 0 0] 67)).heap.size = w.heap.size + 2 := by simp
  generalize (w.alloc (.cells #[.slice A n cap, .int .i64 g.limit] 43)).alloc (.cells #[.slice none 0 0] 67) = W0 at *
  go_cut [3] from 8 (fun v W => ∃ Bf Bd : Nat, v = .slice (some ⟨Bd, 0, none⟩) n n ∧ FlI w W A n cap g.limit Bf Bd (fun _ => 0) (fun _ => 0) (fun _ => 0) (fun _ => 0))
  case first =>
    refine Dr.wp_region_plan 10 [w.heap.size + 1] (.q [0, 1, 2, 4, 5, 6] (.e2 3 (.e2 7 (.e1 8 (.q [9] .done)) 8 (.e1 7 (.q [9] .done))) 7 (.e1 3 (.e1 8 (.q [9] .done))))) (by kernel_rfl) (by kernel_rfl) ?_
    have hb1 := hb0.drew
    have h3 := h1.drew
    have h4 := h2.drew
    have hsz2 : W0.drew.heap.size = w.heap.size + 2 := hsz
    clear hb0 h1 h2 hsz
    generalize World.drew _ = W at *
    have q0 := Dr.cls_cell (M := [w.heap.size + 1]) (h3.cell (i := 0) rfl) (by simp)
    refine Dr.plan_q (l := [_, _, _, _, _, _]) rfl (fun K hK => ?_)
    iterate 6 (go_big_quiet_step (fail))
    refine wpQuiet_nil (hK _ ?_); clear hK K
    clear q0
    have Hsz := Lib.hid hsz2
    have m2 : w.heap.size + 1 < W.heap.size := by omega
    clear hsz2
    have n1 := Blk.new W 73 ((tab (2 * n) (il (fun _ => 0) fun _ => 0)).map (Value.int .i64))
    have n2 := Blk.new (W.alloc (.cells ((tab (2 * n) (il (fun _ => 0) fun _ => 0)).map (Value.int .i64)).toArray 73)) 73 ((tab (2 * n) (il (fun _ => 0) fun _ => 0)).map (Value.int .i64))
    have n3 : (W.alloc (.cells ((tab (2 * n) (il (fun _ => 0) fun _ => 0)).map (Value.int .i64)).toArray 73)).heap.size = W.heap.size + 1 := by simp
    have hbA : Below w.heap.size w ((W.alloc (.cells ((tab (2 * n) (il (fun _ => 0) fun _ => 0)).map (Value.int .i64)).toArray 73)).alloc (.cells ((tab (2 * n) (il (fun _ => 0) fun _ => 0)).map (Value.int .i64)).toArray 73)) := ext_trans (ext_trans hb1 (ext_alloc _ _)) (ext_alloc _ _)
    have hA1 := (h3.alloc (.cells ((tab (2 * n) (il (fun _ => 0) fun _ => 0)).map (Value.int .i64)).toArray 73)).alloc (.cells ((tab (2 * n) (il (fun _ => 0) fun _ => 0)).map (Value.int .i64)).toArray 73)
    have hA2 := (h4.alloc (.cells ((tab (2 * n) (il (fun _ => 0) fun _ => 0)).map (Value.int .i64)).toArray 73)).alloc (.cells ((tab (2 * n) (il (fun _ => 0) fun _ => 0)).map (Value.int .i64)).toArray 73)
    have nA1 := n1.alloc (.cells ((tab (2 * n) (il (fun _ => 0) fun _ => 0)).map (Value.int .i64)).toArray 73)
    have hbB : Below w.heap.size w (W.alloc (.cells ((tab (2 * n) (il (fun _ => 0) fun _ => 0)).map (Value.int .i64)).toArray 73)) := ext_trans hb1 (ext_alloc _ _)
    have hB1 := h3.alloc (.cells ((tab (2 * n) (il (fun _ => 0) fun _ => 0)).map (Value.int .i64)).toArray 73)
    have hB2 := h4.alloc (.cells ((tab (2 * n) (il (fun _ => 0) fun _ => 0)).map (Value.int .i64)).toArray 73)
    refine Dr.plan_e2 ?_ ?_
    · refine Dr.plan_e rfl (by rfl) (fun K hK => ?_)
      go_wp2_with fail
      refine hK _ _ (.of (ext_alloc _ _)) ?_; clear hK K
      refine Dr.plan_e2 ?_ ?_
      · refine Dr.plan_e rfl (by rfl) (fun K hK => ?_)
        go_wp2_with fail
        refine hK _ _ (.of (ext_alloc _ _)) ?_; clear hK K
        rw [n3] at n2
        clear n1 n3 hbB hB1 hB2
        generalize (W.alloc (.cells ((tab (2 * n) (il (fun _ => 0) fun _ => 0)).map (Value.int .i64)).toArray 73)).alloc (.cells ((tab (2 * n) (il (fun _ => 0) fun _ => 0)).map (Value.int .i64)).toArray 73) = W2 at *
        have f2 := hA2.free 0
        have c2 := hA2.cell (i := 0) rfl
        refine Dr.plan_e rfl (by rfl) (fun K hK => ?_)
        go_wp2_with fail
        refine hK _ _ (Dr.Bel.store (by simp) _) ?_; clear hK K
        refine Dr.plan_q (l := [_]) rfl (fun K hK => ?_)
        iterate 1 (go_big_quiet_step (fail))
        refine wpQuiet_nil (hK _ ?_); clear hK K
        refine Dr.plan_end rfl ?_
        go_wp2
        go_meet
        case rel => exact ⟨W.heap.size, W.heap.size + 1, rfl, hbA.setCell (by simp) _, hA1.other (by simp) _, hA2.set 0 _, Blk.other nA1 (by simp; omega) _, Blk.other n2 (by simp; omega) _, m2, by omega, by omega⟩
      · rw [n3] at n2
        have hbA' := hbA
        clear hbA hA1 hA2 nA1
        generalize hW1 : W.alloc (.cells ((tab (2 * n) (il (fun _ => 0) fun _ => 0)).map (Value.int .i64)).toArray 73) = W1 at *
        have f2 := hB2.free 0
        have c2 := hB2.cell (i := 0) rfl
        refine Dr.plan_e rfl (by rfl) (fun K hK => ?_)
        go_wp2_with fail
        refine hK _ _ (Dr.Bel.store (by simp) _) ?_; clear hK K
        have k1 := hB1.other (p := ⟨w.heap.size + 1, 0, none⟩) (by simp) (.slice (some ⟨W.heap.size, 0, none⟩) n n)
        have k2 := hB2.set 0 (.slice (some ⟨W.heap.size, 0, none⟩) n n)
        have k3 := Blk.other (p := ⟨w.heap.size + 1, 0, none⟩) n1 (by simp; omega) (.slice (some ⟨W.heap.size, 0, none⟩) n n)
        have k4 := hbB.setCell (p := ⟨w.heap.size + 1, 0, none⟩) (by simp) (.slice (some ⟨W.heap.size, 0, none⟩) n n)
        have k5 : (W1.setCell ⟨w.heap.size + 1, 0, none⟩ (.slice (some ⟨W.heap.size, 0, none⟩) n n)).heap.size = W.heap.size + 1 := by rw [← n3]; simp
        clear hB1 hB2 n1 hbB hbA' n2 f2 c2 n3 hW1
        generalize W1.setCell ⟨w.heap.size + 1, 0, none⟩ (.slice (some ⟨W.heap.size, 0, none⟩) n n) = W2 at *
        have k6 := Blk.new W2 73 ((tab (2 * n) (il (fun _ => 0) fun _ => 0)).map (Value.int .i64))
        rw [k5] at k6
        have K5 := Lib.hid k5
        clear k5
        refine Dr.plan_e rfl (by rfl) (fun K hK => ?_)
        go_wp2_with fail
        refine hK _ _ (.of (ext_alloc _ _)) ?_; clear hK K
        refine Dr.plan_q (l := [_]) rfl (fun K hK => ?_)
        iterate 1 (go_big_quiet_step (fail))
        refine wpQuiet_nil (hK _ ?_); clear hK K
        refine Dr.plan_end rfl ?_
        go_wp2
        go_meet
        case rel => exact ⟨W.heap.size, W2.heap.size, rfl, k4.alloc (by have := K5.out; omega) _, k1.alloc _, k2.alloc _, Blk.alloc k3 _, by rw [K5.out]; exact k6, m2, by rw [K5.out]; omega, by rw [K5.out]; omega⟩
    · refine Dr.plan_e rfl (by rfl) (fun K hK => ?_)
      go_wp2_with fail
      refine hK _ _ (.of (ext_alloc _ _)) ?_; clear hK K
      refine Dr.plan_e rfl (by rfl) (fun K hK => ?_)
      go_wp2_with fail
      refine hK _ _ (.of (ext_alloc _ _)) ?_; clear hK K
      rw [n3] at n2
      clear n1 n3 hbB hB1 hB2
      generalize (W.alloc (.cells ((tab (2 * n) (il (fun _ => 0) fun _ => 0)).map (Value.int .i64)).toArray 73)).alloc (.cells ((tab (2 * n) (il (fun _ => 0) fun _ => 0)).map (Value.int .i64)).toArray 73) = W2 at *
      have f2 := hA2.free 0
      have c2 := hA2.cell (i := 0) rfl
      refine Dr.plan_e rfl (by rfl) (fun K hK => ?_)
      go_wp2_with fail
      refine hK _ _ (Dr.Bel.store (by simp) _) ?_; clear hK K
      refine Dr.plan_q (l := [_]) rfl (fun K hK => ?_)
      iterate 1 (go_big_quiet_step (fail))
      refine wpQuiet_nil (hK _ ?_); clear hK K
      refine Dr.plan_end rfl ?_
      go_wp2
      go_meet
      case rel => exact ⟨W.heap.size + 1, W.heap.size, rfl, hbA.setCell (by simp) _, hA1.other (by simp) _, hA2.set 0 _, Blk.other n2 (by simp; omega) _, Blk.other nA1 (by simp; omega) _, by omega, m2, by omega⟩
  case rest =>
    obtain ⟨Bf, Bd, rfl, hI⟩ := hcut
    clear hb0 h1 h2 hsz hmk
    have x0 := hI.x0
    go_wp2_with fail
    refine (back_any A n cap _).mono ?_; rintro e w1 ⟨rfl, rfl⟩
    go_wp2
    have hI1 := hI.ext (ext_alloc wc (.cells #[.slice A n cap] 41))
    have hbx := Blk.new wc 41 [.slice A n cap]
    have hsW : (wc.alloc (.cells #[.slice A n cap] 41)).heap.size = wc.heap.size + 1 := by simp
    have lw := hI.bl.size
    have lF := hI.F.lt
    have lD := hI.D.lt
    have lf := hI.lf
    have ld := hI.ld
    clear hI x0
    change Blk (wc.alloc (.cells #[.slice A n cap] 41)) wc.heap.size 41 [.slice A n cap] at hbx
    generalize wc.alloc (.cells #[.slice A n cap] 41) = W1 at *
    generalize ha : Act.mk _ _ = a0
    refine wpIn_wide.1 (wpIn_rangeFunc_ownH (F := Fence.wide) (n := 20) rfl (by omega) (gf := 127) (lb := #[.pointer (some ⟨wc.heap.size, 0, none⟩)]) (by rw [← ha]; rfl) trivial (enters_of Try.func127 (by kernel_rfl) rfl)
      (back_stops g Fence.wide 19 trivial rfl (by omega) wc.heap.size w.heap.size n cap A hn (by omega) hA W1 (by omega) (hbx.cell rfl) (by omega) (hd.ext hI1.bl))
      (fun h k => h.trans k) (Kept.put (by omega) (by omega)) (Below.refl _ _) (fun _ => rfl)
      (fun pre W => FlI w W A n cap g.limit Bf Bd (flW g g.lo pre) (flW g g.hi pre) (fun _ => 0) (fun _ => 0) ∧ W1.heap.size ≤ W.heap.size)
      (fun _ _ _ => False) ?own (fun _ _ _ _ _ hs _ _ => hs) ⟨hI1, Nat.le_refl _⟩
      (fun x a' W => ∃ Bx, wc.heap.size < Bx ∧ Blk W Bx 136 (Nd.enc (g.node x.1)) ∧ a' = { tmps := (((a0.tmps.setIfInBounds 19 (.int .i64 (x.1 : Int))).setIfInBounds 20 (Nd.val (g.node x.1))).setIfInBounds 4 (.int .i64 (x.1 : Int))).setIfInBounds 5 (.pointer (some ⟨Bx, 0, none⟩)), defers := [] })
      (fun x a' _ X Y row hs hg hr => by obtain ⟨Bx, h1, h2, h3⟩ := hs; exact ⟨Bx, h1, Blk.kept h2 hg (fun r e => (hr r e).2), h3⟩)
      ?assign ?body ?done ?stop)
    case own =>
      rintro pre X Y row ⟨hs, hsz⟩ hg hr
      have hr' := fun r e => (hr r e).2
      exact ⟨⟨hs.bl.grown hg hs.bl.size (fun k e => by have := (hr k e).1; omega), Blk.kept hs.b1 hg hr', Blk.kept hs.b2 hg hr', Blk.kept hs.F hg hr', Blk.kept hs.D hg hr', hs.lf, hs.ld, hs.nfd⟩, Nat.le_trans hsz hg.size⟩
    case assign =>
      subst ha
      rintro l pre x W K ⟨hi, hsz⟩ hK
      dsimp only [Nd.val]
      gi_wp2
      have hR := (Rnd.refl W1.heap.size w.heap.size wc.heap.size W).ext (ext_alloc W (.cells #[.int .i64 (g.node x.1).parent, .int .i64 (g.node x.1).load.lo, .int .i64 (g.node x.1).load.hi, .int .i64 (g.node x.1).fuse, .int .i64 (g.node x.1).sag] 136)) (by omega) (by omega)
      exact hK _ _ hR.kf hR.kp ⟨hi.ext (ext_alloc _ _), by simp; omega⟩ ⟨W.heap.size, by omega, Blk.new W 136 (Nd.enc (g.node x.1)), rfl⟩
    case body =>
      subst ha
      rintro l pre x a' W hl ⟨r, hr⟩ ⟨hI, hsz⟩ ⟨Bx, hBx, hnd, rfl⟩ hlt
      simp only [List.setIfInBounds_toArray, List.set_cons_succ, List.set_cons_zero]
      have hR := Rnd.refl W1.heap.size w.heap.size wc.heap.size W
      have hx := x.2
      have hx0 : (0 : Int) ≤ (x.1 : Int) := by omega
      have hxn : (x.1 : Int) < (n : Int) := by omega
      gi_upto_region 5 with fail
      have hIe := hI.ext (ext_drew W)
      have hRe := hR.ext (ext_drew W) (by omega) (by omega)
      have hnde := hnd.ext (ext_drew W)
      refine Dr.wpIn_region_plan rfl ?q 10 [] (.q [0, 1, 2, 3, 4, 5, 6, 7] (.e1 8 (.q [9] .done))) (by kernel_rfl) (by kernel_rfl) (by kernel_rfl) ?_
      case q => rintro ⟨_, _, h⟩; exact h
      clear hI hR hnd
      generalize W.drew = W2 at *
      have q2 := Dr.cell0 hIe.x2
      have q3 := Dr.cell0 (hIe.f0 hx)
      have q4 := Dr.cell0 (hIe.f1 hx)
      have q5 := Dr.cell0 (hnde.cell (i := 1) rfl)
      have q6 := Dr.cell0 (hnde.cell (i := 2) rfl)
      refine Dr.plan_q (l := [_, _, _, _, _, _, _, _]) rfl (fun K hK => ?_)
      iterate 8 (go_big_quiet_step (fail))
      refine wpQuiet_nil (hK _ ?_); clear hK K
      refine Dr.plan_e rfl (by rfl) (fun K hK => ?_)
      go_wp2_with fail
      refine (plus_w _ _ _ _ _ _).mono ?_; rintro e w1 ⟨rfl, hb1⟩
      refine hK _ _ (.of hb1) ?_; clear hK K
      have hI3 := hIe.ext hb1
      have hR3 := hRe.ext hb1 (by omega) (by omega)
      have hnd3 := hnde.ext hb1
      clear hIe hRe hnde q2 q3 q4 q5 q6
      refine Dr.plan_q (l := [_]) rfl (fun K hK => ?_)
      iterate 1 (go_big_quiet_step (fail))
      refine wpQuiet_nil (hK _ ?_); clear hK K
      refine Dr.plan_done (tl := [_]) rfl ?_
      have e1 := hI3.f0 hx
      have e2 := hI3.f1 hx
      have e3 := hI3.F.free (x.1 * 2)
      have e4 := hI3.F.free (x.1 * 2 + 1)
      go_wp2
      have hI4 := hI3.setF x.1 (plusW (flW g g.lo pre x.1) 1 (g.node x.1).load.lo) (plusW (flW g g.hi pre x.1) 1 (g.node x.1).load.hi)
      have hR4 := (hR3.setCell (p := ⟨Bf, x.1 * 2, none⟩) (by simp; omega) (by simp; omega) (.int .i64 (plusW (flW g g.lo pre x.1) 1 (g.node x.1).load.lo))).setCell (p := ⟨Bf, x.1 * 2 + 1, none⟩) (by simp; omega) (by simp; omega) (.int .i64 (plusW (flW g g.hi pre x.1) 1 (g.node x.1).load.hi))
      have hnd4 := (hnd3.other (p := ⟨Bf, x.1 * 2, none⟩) (by simp; omega) (.int .i64 (plusW (flW g g.lo pre x.1) 1 (g.node x.1).load.lo))).other (p := ⟨Bf, x.1 * 2 + 1, none⟩) (by simp; omega) (.int .i64 (plusW (flW g g.hi pre x.1) 1 (g.node x.1).load.hi))
      have hs1 := flW_snoc g g.lo pre x
      have hs2 := flW_snoc g g.hi pre x
      unfold stepW at hs1 hs2
      have hglo : g.lo x.1 = (g.node x.1).load.lo := rfl
      have hghi : g.hi x.1 = (g.node x.1).load.hi := rfl
      rw [hglo] at hs1
      rw [hghi] at hs2
      have Hs1 := Lib.hid hs1
      have Hs2 := Lib.hid hs2
      clear hI3 hR3 hnd3 e1 e2 e3 e4 hb1 hs1 hs2 hglo hghi
      generalize (w1.setCell ⟨Bf, x.1 * 2, none⟩ (.int .i64 (plusW (flW g g.lo pre x.1) 1 (g.node x.1).load.lo))).setCell ⟨Bf, x.1 * 2 + 1, none⟩ (.int .i64 (plusW (flW g g.hi pre x.1) 1 (g.node x.1).load.hi)) = W4 at *
      generalize upd (flW g g.lo pre) x.1 (plusW (flW g g.lo pre x.1) 1 (g.node x.1).load.lo) = F at *
      generalize upd (flW g g.hi pre) x.1 (plusW (flW g g.hi pre x.1) 1 (g.node x.1).load.hi) = G at *
      by_cases hpos : 0 < x.1
      · have hpos' : (0 : Int) < (x.1 : Int) := by omega
        have hpar := Gd.par_lt hok hpos (by omega)
        have Hpar := Lib.hid hpar.2
        have hp1 := hpar.1
        have hpn : g.par x.1 < n := by omega
        clear hpar
        rw [if_pos hpos] at Hs1 Hs2
        clear hpos
        gi_upto_region 7 with fail
        have hIe := hI4.ext (ext_drew W4)
        have hRe := hR4.ext (ext_drew W4) (by omega) (by omega)
        have hnde := hnd4.ext (ext_drew W4)
        refine Dr.wpIn_region_plan rfl ?q 14 [] (.q [0, 1, 2, 3, 4, 5, 6, 7, 8, 9, 10, 11] (.e1 12 (.q [13] .done))) (by kernel_rfl) (by kernel_rfl) (by kernel_rfl) ?_
        case q => rintro ⟨_, _, h⟩; exact h
        clear hI4 hR4 hnd4
        generalize W4.drew = W5 at *
        have hc := hnde.cell (i := 0) rfl
        rw [Hpar.out] at hc
        have q2 := Dr.cell0 hIe.x2
        have q3 := Dr.cell0 (hIe.f0 hx)
        have q4 := Dr.cell0 (hIe.f1 hx)
        have q5 := Dr.cell0 hc
        have q6 := Dr.cell0 (hIe.f0 hpn)
        have q7 := Dr.cell0 (hIe.f1 hpn)
        have hp0 : (0 : Int) ≤ (g.par x.1 : Int) := by omega
        have hpn' : (g.par x.1 : Int) < (n : Int) := by omega
        clear hc
        refine Dr.plan_q (l := [_, _, _, _, _, _, _, _, _, _, _, _]) rfl (fun K hK => ?_)
        iterate 12 (go_big_quiet_step (fail))
        refine wpQuiet_nil (hK _ ?_); clear hK K
        refine Dr.plan_e rfl (by rfl) (fun K hK => ?_)
        go_wp2_with fail
        refine (plus_w _ _ _ _ _ _).mono ?_; rintro e w2 ⟨rfl, hb1⟩
        refine hK _ _ (.of hb1) ?_; clear hK K
        have hI6 := hIe.ext hb1
        have hR6 := hRe.ext hb1 (by omega) (by omega)
        clear hIe hRe hnde q2 q3 q4 q5 q6 q7
        refine Dr.plan_q (l := [_]) rfl (fun K hK => ?_)
        iterate 1 (go_big_quiet_step (fail))
        refine wpQuiet_nil (hK _ ?_); clear hK K
        refine Dr.plan_done (tl := [_]) rfl ?_
        have e1 := hI6.f0 hpn
        have e2 := hI6.f1 hpn
        have e3 := hI6.F.free (g.par x.1 * 2)
        have e4 := hI6.F.free (g.par x.1 * 2 + 1)
        go_wp2
        have hR7 := (hR6.setCell (p := ⟨Bf, g.par x.1 * 2, none⟩) (by simp; omega) (by simp; omega) (.int .i64 (plusW (F (g.par x.1)) 1 (F x.1)))).setCell (p := ⟨Bf, g.par x.1 * 2 + 1, none⟩) (by simp; omega) (by simp; omega) (.int .i64 (plusW (G (g.par x.1)) 1 (G x.1)))
        refine ⟨hR7.kf, hR7.kp, ?_, by have := hR7.sz; omega⟩
        rw [Hs1.out, Hs2.out]
        exact hI6.setF (g.par x.1) (plusW (F (g.par x.1)) 1 (F x.1)) (plusW (G (g.par x.1)) 1 (G x.1))
      · have hpos' : ¬ (0 : Int) < (x.1 : Int) := by omega
        have hz : (x.1 : Int) ≤ 0 := by omega
        rw [if_neg hpos] at Hs1 Hs2
        clear hpos
        gi_wp2
        refine ⟨by rw [← hsW]; exact hR4.kf, hR4.kp, ?_, by have := hR4.sz; omega⟩
        rw [Hs1.out, Hs2.out]
        exact hI4
    case done =>
      subst ha
      rintro D ys W hD rfl ⟨hI, hsz⟩ hK
      have hlo : ∀ i, i < g.nodes.length → 0 ≤ g.lo i ∧ g.lo i ≤ 1000000 := fun i hi => by
        have := (hok.nodes i hi).load
        unfold Gd.lo; omega
      have hhi : ∀ i, i < g.nodes.length → 0 ≤ g.hi i ∧ g.hi i ≤ 1000000 := fun i hi => by
        have := (hok.nodes i hi).load
        unfold Gd.hi; omega
      have e1 : flW g g.lo (backs n n (Nat.le_refl n)) = g.flow g.lo := by subst hn; exact flW_eq hok hlo _ _
      have e2 : flW g g.hi (backs n n (Nat.le_refl n)) = g.flow g.hi := by subst hn; exact flW_eq hok hhi _ _
      rw [e1, e2] at hI
      have hfb1 : ∀ i, 0 ≤ g.flow g.lo i ∧ g.flow g.lo i ≤ 30000000 := fun i => by
        have := (g.fl_bd hok hlo _ (Nat.le_refl _)).1 i
        unfold Gd.flow; omega
      have hfb2 : ∀ i, 0 ≤ g.flow g.hi i ∧ g.flow g.hi i ≤ 30000000 := fun i => by
        have := (g.fl_bd hok hhi _ (Nat.le_refl _)).1 i
        unfold Gd.flow; omega
      have hdb1 := fun m hm => g.dr_bd hok hfb1 m hm
      have hdb2 := fun m hm => g.dr_bd hok hfb2 m hm
      have hF : g.dr (g.flow g.lo) n = g.drop (g.flow g.lo) := by rw [← hn]; rfl
      have hG : g.dr (g.flow g.hi) n = g.drop (g.flow g.hi) := by rw [← hn]; rfl
      have HF := Lib.hid hF
      have HG := Lib.hid hG
      have HB := Lib.hid (And.intro (And.intro hfb1 hfb2) (And.intro hdb1 hdb2))
      have HW := Lib.hid hsW
      have HN := Lib.hid hn
      clear e1 e2 hlo hhi hI1 hbx hfb1 hfb2 hdb1 hdb2 hF hG hsW
      generalize hFF : g.flow g.lo = F at *
      generalize hGG : g.flow g.hi = G at *
      have HFF := Lib.hid hFF
      have HGG := Lib.hid hGG
      clear hFF hGG
      have x0 := hI.x0
      go_wp2
      go_loopw [50] (fun x wr => ∃ k : Nat, x = .int .i64 k ∧ k ≤ n ∧ FlI w wr A n cap g.limit Bf Bd F G (g.dr F k) (g.dr G k) ∧ wr.heap[D]? = some (.deferred (some []))) (fun x _ => (n - intOf x).toNat)
      case atStart => exact ⟨0, rfl, by omega, hI, hK⟩
      case round =>
        clear hI hK x0
        obtain ⟨k, rfl, hk, hI, hK⟩ := hrel
        by_cases hlt : k < n
        · have hlt' : (k : Int) < n := by omega
          have hk0 : (0 : Int) ≤ k := by omega
          obtain ⟨b, off, e, -, c0, c1, c2, c3, c4⟩ := (hd.ext hI.bl).node (k := k) (by omega)
          have m0 := cell_lt c0
          subst e
          go_upto_region 11 with fail
          have hI2 := hI.ext (ext_alloc wr (.cells #[.int .i64 (g.node k).parent, .int .i64 (g.node k).load.lo, .int .i64 (g.node k).load.hi, .int .i64 (g.node k).fuse, .int .i64 (g.node k).sag] 136))
          have hK2 : (wr.alloc (.cells #[.int .i64 (g.node k).parent, .int .i64 (g.node k).load.lo, .int .i64 (g.node k).load.hi, .int .i64 (g.node k).fuse, .int .i64 (g.node k).sag] 136)).heap[D]? = some (.deferred (some [])) := ((ext_alloc wr (.cells #[.int .i64 (g.node k).parent, .int .i64 (g.node k).load.lo, .int .i64 (g.node k).load.hi, .int .i64 (g.node k).fuse, .int .i64 (g.node k).sag] 136)).block D (Array.getElem?_eq_some_iff.1 hK).1).trans hK
          have hnd : Blk (wr.alloc (.cells #[.int .i64 (g.node k).parent, .int .i64 (g.node k).load.lo, .int .i64 (g.node k).load.hi, .int .i64 (g.node k).fuse, .int .i64 (g.node k).sag] 136)) wr.heap.size 136 [.int .i64 (g.node k).parent, .int .i64 (g.node k).load.lo, .int .i64 (g.node k).load.hi, .int .i64 (g.node k).fuse, .int .i64 (g.node k).sag] := Blk.new wr 136 [.int .i64 (g.node k).parent, .int .i64 (g.node k).load.lo, .int .i64 (g.node k).load.hi, .int .i64 (g.node k).fuse, .int .i64 (g.node k).sag]
          clear hI hK c0 c1 c2 c3 c4 m0
          generalize wr.alloc (.cells #[.int .i64 (g.node k).parent, .int .i64 (g.node k).load.lo, .int .i64 (g.node k).load.hi, .int .i64 (g.node k).fuse, .int .i64 (g.node k).sag] 136) = W2 at *
          have hDb : Bd ≠ D := by have := HW.out; omega
          have hdr1 : g.dr F (k + 1) = if 0 < k then upd (g.dr F k) k (g.dr F k (g.par k) + (g.node k).sag * F k) else g.dr F k := rfl
          have hdr2 : g.dr G (k + 1) = if 0 < k then upd (g.dr G k) k (g.dr G k (g.par k) + (g.node k).sag * G k) else g.dr G k := rfl
          have Hd1 := Lib.hid hdr1
          have Hd2 := Lib.hid hdr2
          clear hdr1 hdr2
          by_cases hpos : 0 < k
          · have hpos' : (0 : Int) < (k : Int) := by omega
            have hpar := Gd.par_lt hok hpos (by omega)
            have Hpar := Lib.hid hpar.2
            have hp1 := hpar.1
            have hpn : g.par k < n := by omega
            have hsag := ((hok.nodes k (by omega)).inn hpos).2.2
            clear hpar
            rw [if_pos hpos] at Hd1 Hd2
            clear hpos
            go_upto_region 12 with fail
            refine Dr.wp_region_plan 15 [] (.q [0, 1, 2, 3, 4, 5, 6, 7, 8, 9, 10, 11, 12] (.e1 13 (.q [14] .done))) (by kernel_rfl) (by kernel_rfl) ?_
            have hIe := hI2.ext (ext_drew W2)
            have hKe : W2.drew.heap[D]? = some (.deferred (some [])) := hK2
            have hnde := hnd.ext (ext_drew W2)
            clear hI2 hK2 hnd
            generalize W2.drew = W3 at *
            have hc := hnde.cell (i := 0) rfl
            rw [Hpar.out] at hc
            have q0 := Dr.cell0 hIe.x2
            have q1 := Dr.cell0 hc
            have q2 := Dr.cell0 (hnde.cell (i := 4) rfl)
            have q3 := Dr.cell0 (hIe.f0 hlt)
            have q4 := Dr.cell0 (hIe.f1 hlt)
            have q5 := Dr.cell0 (hIe.d0 hpn)
            have q6 := Dr.cell0 (hIe.d1 hpn)
            have hp0 : (0 : Int) ≤ (g.par k : Int) := by omega
            have hpn' : (g.par k : Int) < (n : Int) := by omega
            clear hc
            refine Dr.plan_q (l := [_, _, _, _, _, _, _, _, _, _, _, _, _]) rfl (fun K hK => ?_)
            iterate 13 (go_big_quiet_step (fail))
            refine wpQuiet_nil (hK _ ?_); clear hK K
            refine Dr.plan_e rfl (by rfl) (fun K hK => ?_)
            go_wp2_with fail
            refine (plus_any _ _ _ _ _ _ ?_ ?_ hsag).mono ?_
            · have h1 := HB.out.2.1 k (by omega) (g.par k)
              have h2 := HB.out.2.2 k (by omega) (g.par k)
              omega
            · have h1 := HB.out.1.1 k
              have h2 := HB.out.1.2 k
              omega
            rintro e w2 ⟨rfl, hb1⟩
            refine hK _ _ (.of hb1) ?_; clear hK K
            have hI6 := hIe.ext hb1
            have hK6 : w2.heap[D]? = some (.deferred (some [])) := (hb1.block D (Array.getElem?_eq_some_iff.1 hKe).1).trans hKe
            clear hIe hKe hnde q0 q1 q2 q3 q4 q5 q6
            refine Dr.plan_q (l := [_]) rfl (fun K hK => ?_)
            iterate 1 (go_big_quiet_step (fail))
            refine wpQuiet_nil (hK _ ?_); clear hK K
            refine Dr.plan_done (tl := [_]) rfl ?_
            have e1 := hI6.d0 hlt
            have e2 := hI6.d1 hlt
            have e3 := hI6.D.free (k * 2)
            have e4 := hI6.D.free (k * 2 + 1)
            go_wp2
            have hI7 := hI6.setD k (g.dr F k (g.par k) + (g.node k).sag * F k) (g.dr G k (g.par k) + (g.node k).sag * G k)
            have hK7 : ((w2.setCell ⟨Bd, k * 2, none⟩ (.int .i64 (g.dr F k (g.par k) + (g.node k).sag * F k))).setCell ⟨Bd, k * 2 + 1, none⟩ (.int .i64 (g.dr G k (g.par k) + (g.node k).sag * G k))).heap[D]? = some (.deferred (some [])) :=
              (Below.heap_setCell _ _ _ D (by simp; omega)).trans ((Below.heap_setCell _ _ _ D (by simp; omega)).trans hK6)
            clear hI6 hK6 e1 e2 e3 e4
            go_roundw
            case rel => exact ⟨k + 1, by go_num, by omega, by rw [Hd1.out, Hd2.out]; exact hI7, hK7⟩
            case measure => simp [intOf]; omega
          · have hpos' : ¬ (0 : Int) < (k : Int) := by omega
            have hz : (k : Int) ≤ 0 := by omega
            rw [if_neg hpos] at Hd1 Hd2
            clear hpos
            go_wp2
            go_roundw
            case rel => exact ⟨k + 1, by go_num, by omega, by rw [Hd1.out, Hd2.out]; exact hI2, hK2⟩
            case measure => simp [intOf]; omega
        · obtain rfl : k = n := by omega
          rw [HF.out, HG.out] at hI
          have x2 := hI.x2
          have z2 := hI.b2.free 0
          go_wp2
          have hDb : w.heap.size + 1 ≠ D := by have := HW.out; omega
          have hK8 : (wr.setCell ⟨w.heap.size + 1, 0, none⟩ (.slice (some ⟨Bf, 0, none⟩) k k)).heap[D]? = some (.deferred (some [])) := (Below.heap_setCell _ _ _ D (by simp; omega)).trans hK
          have y1 := hI.b2.set 0 (.slice (some ⟨Bf, 0, none⟩) k k)
          have y2 := Blk.other (p := ⟨w.heap.size + 1, 0, none⟩) hI.F (by simp; omega) (.slice (some ⟨Bf, 0, none⟩) k k)
          have y3 := Blk.other (p := ⟨w.heap.size + 1, 0, none⟩) hI.D (by simp; omega) (.slice (some ⟨Bf, 0, none⟩) k k)
          have y4 := hI.bl.setCell (p := ⟨w.heap.size + 1, 0, none⟩) (by simp) (.slice (some ⟨Bf, 0, none⟩) k k)
          generalize wr.setCell ⟨w.heap.size + 1, 0, none⟩ (.slice (some ⟨Bf, 0, none⟩) k k) = W9 at *
          refine ⟨by simp, .inl ⟨_, _, rfl, run_takeDeferred hK8, ?_⟩⟩
          have hrow : ∀ r, some D = some r → ∃ o : Obj, W9.heap[r]? = some o ∧ o.isCells = false := fun r e => by cases e; exact ⟨_, hK8, rfl⟩
          have p1 := (Blk.kept y1 (grownBy_putObj' W9 D (.deferred none)) hrow).cell (i := 0) rfl
          have p2 := Blk.kept y2 (grownBy_putObj' W9 D (.deferred none)) hrow
          have p3 := Blk.kept y3 (grownBy_putObj' W9 D (.deferred none)) hrow
          have p4 : Below w.heap.size w (W9.putObj D (.deferred none)) := y4.trans (belowK_b (w := w) (Nat.le_refl _) W9 D _ _ (by have := HW.out; omega) hK8 rfl rfl)
          refine ⟨.tuple #[.slice (some ⟨Bf, 0, none⟩) k k, .slice (some ⟨Bd, 0, none⟩) k k], by simp [results, Try.results76, go_sem, p1], Bf, Bd, by rw [HN.out], p4, ?_, ?_, by omega, by omega, hI.nfd⟩
          · rw [HN.out, HFF.out, HGG.out]; exact p2
          · rw [HN.out, HFF.out, HGG.out]; exact p3
    case stop =>
      rintro D c pre W _ _ h _
      exact h.elim
end Go.Proofs.Ytopfhinnamhoiaa

/- Walk: Without (the call of the package). -/
import Derived.Test.YtcnidhcdkbfpcaaPrlT
namespace Go.Proofs.Ytcnidhcdkbfpcaa
open Go.RowKit Go.Bs Go.Pg Go.Pl Go.Sort
/-- what Without returns -/
def WutR (bs : Nat) (s : Sh) (n : Int) (e : Ending) (W : World) : Prop :=
  (s.okB = false ∧ e = .returned (.tuple #[.agg #[.slice none 0 0, .slice none 0 0, .slice none 0 0, .slice none 0 0, .int .i64 0, .int .i64 0, .slice none 0 0], .slice none 0 0, .int .i64 0, .int .i64 1])) ∨
  (s.okB = true ∧ btw n 0 (s.rest.length - 1) = false ∧ e = .returned (.tuple #[.agg #[.slice none 0 0, .slice none 0 0, .slice none 0 0, .slice none 0 0, .int .i64 0, .int .i64 0, .slice none 0 0], .slice none 0 0, .int .i64 0, .int .i64 2])) ∨
  (s.okB = true ∧ btw n 0 (s.rest.length - 1) = true ∧
    ((∃ i : Nat, s.excep n.toNat = some i ∧ e = .returned (.tuple #[.agg #[.slice none 0 0, .slice none 0 0, .slice none 0 0, .slice none 0 0, .int .i64 0, .int .i64 0, .slice none 0 0], .slice none 0 0, .int .i64 i, .int .i64 9])) ∨
     (s.excep n.toNat = none ∧ s.keptTo n.toNat s.acts.length = [] ∧ e = .returned (.tuple #[.agg #[.slice none 0 0, .slice none 0 0, .slice none 0 0, .slice none 0 0, .int .i64 0, .int .i64 0, .slice none 0 0], .slice none 0 0, .int .i64 0, .int .i64 7])) ∨
     (s.excep n.toNat = none ∧ s.keptTo n.toNat s.acts.length ≠ [] ∧ ∃ q vk, e = .returned (.tuple #[shV (s.lessW n.toNat) q, vk, .int .i64 0, .int .i64 0]) ∧ ShO 82 W (s.lessW n.toNat) q ∧ OwnL W bs 3 1 encI vk (toI (s.keptTo n.toNat s.acts.length)))))
set_option maxRecDepth 100000 in
set_option maxHeartbeats 10000000 in
theorem Without_any (s : Sh) (p : ShP) (n : Int) (w : World) (h : ShM w s p) :
    Calls Try.prog 36 #[shV s p, .int .i64 n] w fun e w' => WutR w.heap.size s n e w' ∧ Below w.heap.size w w' := by
  have m2 := h.small.2.1
  have hb0 : Below w.heap.size w ((w.alloc (.cells (shC s p).toArray 35)).alloc (.cells zerC.toArray 35)) := ((Below.refl _ _).alloc (Nat.le_refl _) _).alloc (by simp) _
  have hS : Blk ((w.alloc (.cells (shC s p).toArray 35)).alloc (.cells zerC.toArray 35)) w.heap.size 35 (shC s p) := (Blk.new w 35 (shC s p)).alloc _
  have hT : Blk ((w.alloc (.cells (shC s p).toArray 35)).alloc (.cells zerC.toArray 35)) (w.heap.size + 1) 35 zerC := by
    have := Blk.new (w.alloc (.cells (shC s p).toArray 35)) 35 zerC
    simpa using this
  have h0 := h.ext hb0
  have hz0 : w.heap.size ≤ ((w.alloc (.cells (shC s p).toArray 35)).alloc (.cells zerC.toArray 35)).heap.size := hb0.size
  have H1 := Lib.hid (fun (h1 : s.okB = false) => show ∀ W, WutR w.heap.size s n (.returned (.tuple #[.agg #[.slice none 0 0, .slice none 0 0, .slice none 0 0, .slice none 0 0, .int .i64 0, .int .i64 0, .slice none 0 0], .slice none 0 0, .int .i64 0, .int .i64 1])) W from fun W => .inl ⟨h1, rfl⟩)
  have H2 := Lib.hid (fun (h1 : s.okB = true) (h2 : btw n 0 (s.rest.length - 1) = false) => show ∀ W, WutR w.heap.size s n (.returned (.tuple #[.agg #[.slice none 0 0, .slice none 0 0, .slice none 0 0, .slice none 0 0, .int .i64 0, .int .i64 0, .slice none 0 0], .slice none 0 0, .int .i64 0, .int .i64 2])) W from fun W => .inr (.inl ⟨h1, h2, rfl⟩))
  have H3 := Lib.hid (fun (h1 : s.okB = true) (h2 : btw n 0 (s.rest.length - 1) = true) (i : Nat) (h3 : s.excep n.toNat = some i) => show ∀ W, WutR w.heap.size s n (.returned (.tuple #[.agg #[.slice none 0 0, .slice none 0 0, .slice none 0 0, .slice none 0 0, .int .i64 0, .int .i64 0, .slice none 0 0], .slice none 0 0, .int .i64 (i : Int), .int .i64 9])) W from fun W => .inr (.inr ⟨h1, h2, .inl ⟨i, h3, rfl⟩⟩))
  have H4 := Lib.hid (fun (h1 : s.okB = true) (h2 : btw n 0 (s.rest.length - 1) = true) (h3 : s.excep n.toNat = none) (h4 : s.keptTo n.toNat s.acts.length = []) => show ∀ W, WutR w.heap.size s n (.returned (.tuple #[.agg #[.slice none 0 0, .slice none 0 0, .slice none 0 0, .slice none 0 0, .int .i64 0, .int .i64 0, .slice none 0 0], .slice none 0 0, .int .i64 0, .int .i64 7])) W from fun W => .inr (.inr ⟨h1, h2, .inr (.inl ⟨h3, h4, rfl⟩)⟩))
  have H5 := Lib.hid (fun (h1 : s.okB = true) (h2 : btw n 0 (s.rest.length - 1) = true) (h3 : s.excep n.toNat = none) (h4 : s.keptTo n.toNat s.acts.length ≠ []) q vk W h5 h6 => show WutR w.heap.size s n (.returned (.tuple #[shV (s.lessW n.toNat) q, vk, .int .i64 0, .int .i64 0])) W from .inr (.inr ⟨h1, h2, .inr (.inr ⟨h3, h4, q, vk, rfl, h5, h6⟩)⟩))
  have CV := Lib.hid (valid_any s p _ h0)
  have CW := Lib.hid (fun W (hb : Below ((w.alloc (.cells (shC s p).toArray 35)).alloc (.cells zerC.toArray 35)).heap.size ((w.alloc (.cells (shC s p).toArray 35)).alloc (.cells zerC.toArray 35)) W) (h1 : s.okB = true) (pn : Nat) (h2 : pn < s.rest.length) => without_any s p pn W (h0.ext hb) (Sh.ok_of h1) h2)
  clear h h0
  unfold shV at *
  unfold shC at *
  unfold zerC at *
  go_enter Try.func36, Try.ntmps36
  go_upto_region 1 with fail
  change Below w.heap.size w ((w.alloc (.cells #[.slice p.A s.acts.length p.cA, .slice p.R s.rest.length p.cR, .slice p.I s.ins.length p.cI, .slice p.O s.outs.length p.cO, .int .i64 s.cover, .int .i64 s.dull, .slice p.B s.before.length p.cB] 35)).alloc (.cells #[.slice none 0 0, .slice none 0 0, .slice none 0 0, .slice none 0 0, .int .i64 0, .int .i64 0, .slice none 0 0] 35)) at hb0
  change Blk ((w.alloc (.cells #[.slice p.A s.acts.length p.cA, .slice p.R s.rest.length p.cR, .slice p.I s.ins.length p.cI, .slice p.O s.outs.length p.cO, .int .i64 s.cover, .int .i64 s.dull, .slice p.B s.before.length p.cB] 35)).alloc (.cells #[.slice none 0 0, .slice none 0 0, .slice none 0 0, .slice none 0 0, .int .i64 0, .int .i64 0, .slice none 0 0] 35)) _ _ _ at hS
  change Blk ((w.alloc (.cells #[.slice p.A s.acts.length p.cA, .slice p.R s.rest.length p.cR, .slice p.I s.ins.length p.cI, .slice p.O s.outs.length p.cO, .int .i64 s.cover, .int .i64 s.dull, .slice p.B s.before.length p.cB] 35)).alloc (.cells #[.slice none 0 0, .slice none 0 0, .slice none 0 0, .slice none 0 0, .int .i64 0, .int .i64 0, .slice none 0 0] 35)) _ _ _ at hT
  change Hid (Calls _ _ _ ((w.alloc (.cells #[.slice p.A s.acts.length p.cA, .slice p.R s.rest.length p.cR, .slice p.I s.ins.length p.cI, .slice p.O s.outs.length p.cO, .int .i64 s.cover, .int .i64 s.dull, .slice p.B s.before.length p.cB] 35)).alloc (.cells #[.slice none 0 0, .slice none 0 0, .slice none 0 0, .slice none 0 0, .int .i64 0, .int .i64 0, .slice none 0 0] 35)) _) at CV
  change Hid (∀ W, Below ((w.alloc (.cells #[.slice p.A s.acts.length p.cA, .slice p.R s.rest.length p.cR, .slice p.I s.ins.length p.cI, .slice p.O s.outs.length p.cO, .int .i64 s.cover, .int .i64 s.dull, .slice p.B s.before.length p.cB] 35)).alloc (.cells #[.slice none 0 0, .slice none 0 0, .slice none 0 0, .slice none 0 0, .int .i64 0, .int .i64 0, .slice none 0 0] 35)).heap.size ((w.alloc (.cells #[.slice p.A s.acts.length p.cA, .slice p.R s.rest.length p.cR, .slice p.I s.ins.length p.cI, .slice p.O s.outs.length p.cO, .int .i64 s.cover, .int .i64 s.dull, .slice p.B s.before.length p.cB] 35)).alloc (.cells #[.slice none 0 0, .slice none 0 0, .slice none 0 0, .slice none 0 0, .int .i64 0, .int .i64 0, .slice none 0 0] 35)) W → _) at CW
  change w.heap.size ≤ ((w.alloc (.cells #[.slice p.A s.acts.length p.cA, .slice p.R s.rest.length p.cR, .slice p.I s.ins.length p.cI, .slice p.O s.outs.length p.cO, .int .i64 s.cover, .int .i64 s.dull, .slice p.B s.before.length p.cB] 35)).alloc (.cells #[.slice none 0 0, .slice none 0 0, .slice none 0 0, .slice none 0 0, .int .i64 0, .int .i64 0, .slice none 0 0] 35)).heap.size at hz0
  generalize (w.alloc (.cells #[.slice p.A s.acts.length p.cA, .slice p.R s.rest.length p.cR, .slice p.I s.ins.length p.cI, .slice p.O s.outs.length p.cO, .int .i64 s.cover, .int .i64 s.dull, .slice p.B s.before.length p.cB] 35)).alloc (.cells #[.slice none 0 0, .slice none 0 0, .slice none 0 0, .slice none 0 0, .int .i64 0, .int .i64 0, .slice none 0 0] 35) = W0 at *
  have x0 : W0.cell? ⟨w.heap.size, 0, none⟩ = _ := hS.cell (i := 0) rfl
  have x1 : W0.cell? ⟨w.heap.size, 1, none⟩ = _ := hS.cell (i := 1) rfl
  have x2 : W0.cell? ⟨w.heap.size, 2, none⟩ = _ := hS.cell (i := 2) rfl
  have x3 : W0.cell? ⟨w.heap.size, 3, none⟩ = _ := hS.cell (i := 3) rfl
  have x4 : W0.cell? ⟨w.heap.size, 4, none⟩ = _ := hS.cell (i := 4) rfl
  have x5 : W0.cell? ⟨w.heap.size, 5, none⟩ = _ := hS.cell (i := 5) rfl
  have x6 : W0.cell? ⟨w.heap.size, 6, none⟩ = _ := hS.cell (i := 6) rfl
  go_wp2_with fail
  refine CV.out.mono ?_; rintro e W1 ⟨rfl, hb1⟩
  clear x0 x1 x2 x3 x4 x5 x6
  have hS1 := hS.ext hb1
  have hT1 := hT.ext hb1
  have hbw := ext_trans hb0 hb1
  clear hS hT hb0 CV
  have x0 : W1.cell? ⟨w.heap.size, 0, none⟩ = _ := hS1.cell (i := 0) rfl
  have x1 : W1.cell? ⟨w.heap.size, 1, none⟩ = _ := hS1.cell (i := 1) rfl
  have x2 : W1.cell? ⟨w.heap.size, 2, none⟩ = _ := hS1.cell (i := 2) rfl
  have x3 : W1.cell? ⟨w.heap.size, 3, none⟩ = _ := hS1.cell (i := 3) rfl
  have x4 : W1.cell? ⟨w.heap.size, 4, none⟩ = _ := hS1.cell (i := 4) rfl
  have x5 : W1.cell? ⟨w.heap.size, 5, none⟩ = _ := hS1.cell (i := 5) rfl
  have x6 : W1.cell? ⟨w.heap.size, 6, none⟩ = _ := hS1.cell (i := 6) rfl
  cases hok : s.okB
  · have HR := Lib.hid (H1.out hok)
    have y0 : W1.cell? ⟨w.heap.size + 1, 0, none⟩ = some _ := hT1.cell (i := 0) rfl
    have f0 := hT1.free 0
    have y1 : W1.cell? ⟨w.heap.size + 1, 1, none⟩ = some _ := hT1.cell (i := 1) rfl
    have f1 := hT1.free 1
    have y2 : W1.cell? ⟨w.heap.size + 1, 2, none⟩ = some _ := hT1.cell (i := 2) rfl
    have f2 := hT1.free 2
    have y3 : W1.cell? ⟨w.heap.size + 1, 3, none⟩ = some _ := hT1.cell (i := 3) rfl
    have f3 := hT1.free 3
    have y4 : W1.cell? ⟨w.heap.size + 1, 4, none⟩ = some _ := hT1.cell (i := 4) rfl
    have f4 := hT1.free 4
    have y5 : W1.cell? ⟨w.heap.size + 1, 5, none⟩ = some _ := hT1.cell (i := 5) rfl
    have f5 := hT1.free 5
    have y6 : W1.cell? ⟨w.heap.size + 1, 6, none⟩ = some _ := hT1.cell (i := 6) rfl
    have f6 := hT1.free 6
    have s0 := set_self hT1 (i := 0) rfl
    have s1 := set_self hT1 (i := 1) rfl
    have s2 := set_self hT1 (i := 2) rfl
    have s3 := set_self hT1 (i := 3) rfl
    have s4 := set_self hT1 (i := 4) rfl
    have s5 := set_self hT1 (i := 5) rfl
    have s6 := set_self hT1 (i := 6) rfl
    clear H2 H3 H4 H5 hok CW
    go_wp2
    refine bodyPost_ret (v := .tuple #[.agg #[.slice none 0 0, .slice none 0 0, .slice none 0 0, .slice none 0 0, .int .i64 0, .int .i64 0, .slice none 0 0], .slice none 0 0, .int .i64 0, .int .i64 1]) (by simp [results, Try.results36, go_sem, y0, y1, y2, y3, y4, y5, y6]) rfl ?_
    exact ⟨HR.out _, hbw⟩
  have Hbt := Lib.hid (show btw n 0 (s.rest.length - 1) = true → 0 ≤ n ∧ n ≤ (s.rest.length : Int) - 1 from fun h1 => btw_iff.1 h1)
  have H2 := Lib.hid (H2.out hok)
  have H3 := Lib.hid (H3.out hok)
  have H4 := Lib.hid (H4.out hok)
  have H5 := Lib.hid (H5.out hok)
  have CW := Lib.hid (fun h2 => CW.out W1 hb1 hok h2)
  clear H1 hok hb1
  generalize hbt : btw n 0 (s.rest.length - 1) = bt at *
  have C2 := Lib.hid (fun W => hbt ▸ within_any n 0 (s.rest.length - 1) W)
  clear hbt
  cases bt
  · have HR := Lib.hid (H2.out rfl)
    have y0 : W1.cell? ⟨w.heap.size + 1, 0, none⟩ = some _ := hT1.cell (i := 0) rfl
    have f0 := hT1.free 0
    have y1 : W1.cell? ⟨w.heap.size + 1, 1, none⟩ = some _ := hT1.cell (i := 1) rfl
    have f1 := hT1.free 1
    have y2 : W1.cell? ⟨w.heap.size + 1, 2, none⟩ = some _ := hT1.cell (i := 2) rfl
    have f2 := hT1.free 2
    have y3 : W1.cell? ⟨w.heap.size + 1, 3, none⟩ = some _ := hT1.cell (i := 3) rfl
    have f3 := hT1.free 3
    have y4 : W1.cell? ⟨w.heap.size + 1, 4, none⟩ = some _ := hT1.cell (i := 4) rfl
    have f4 := hT1.free 4
    have y5 : W1.cell? ⟨w.heap.size + 1, 5, none⟩ = some _ := hT1.cell (i := 5) rfl
    have f5 := hT1.free 5
    have y6 : W1.cell? ⟨w.heap.size + 1, 6, none⟩ = some _ := hT1.cell (i := 6) rfl
    have f6 := hT1.free 6
    have s0 := set_self hT1 (i := 0) rfl
    have s1 := set_self hT1 (i := 1) rfl
    have s2 := set_self hT1 (i := 2) rfl
    have s3 := set_self hT1 (i := 3) rfl
    have s4 := set_self hT1 (i := 4) rfl
    have s5 := set_self hT1 (i := 5) rfl
    have s6 := set_self hT1 (i := 6) rfl
    clear H2 H3 H4 H5 CW Hbt
    go_wp2_with fail
    refine (C2.out _).mono ?_; rintro e w1 ⟨rfl, rfl⟩
    go_wp2
    refine bodyPost_ret (v := .tuple #[.agg #[.slice none 0 0, .slice none 0 0, .slice none 0 0, .slice none 0 0, .int .i64 0, .int .i64 0, .slice none 0 0], .slice none 0 0, .int .i64 0, .int .i64 2]) (by simp [results, Try.results36, go_sem, y0, y1, y2, y3, y4, y5, y6]) rfl ?_
    exact ⟨HR.out _, hbw⟩
  go_wp2_with fail
  refine (C2.out _).mono ?_; rintro e w1 ⟨rfl, rfl⟩
  go_upto_region 5 with fail
  have hbt2 := Hbt.out (by first | rfl | trivial)
  obtain ⟨pn, rfl⟩ : ∃ pn : Nat, n = pn := ⟨n.toNat, by omega⟩
  have hpn : pn < s.rest.length := by omega
  have H3 := Lib.hid (H3.out (by first | rfl | trivial))
  have H4 := Lib.hid (H4.out (by first | rfl | trivial))
  have H5 := Lib.hid (H5.out (by first | rfl | trivial))
  rw [Int.toNat_natCast] at H3 H4 H5
  have CW := Lib.hid (CW.out pn hpn)
  unfold WotR at CW
  have hk1 := Sh.keptTo_le (s := s) (p := pn) s.acts.length
  generalize s.keptTo pn s.acts.length = kt at *
  generalize s.excep pn = ex at *
  generalize s.lessW pn = sl at *
  clear H2 hbt2 Hbt hpn
  have y0 : W1.cell? ⟨w.heap.size + 1, 0, none⟩ = some _ := hT1.cell (i := 0) rfl
  have f0 := hT1.free 0
  have y1 : W1.cell? ⟨w.heap.size + 1, 1, none⟩ = some _ := hT1.cell (i := 1) rfl
  have f1 := hT1.free 1
  have y2 : W1.cell? ⟨w.heap.size + 1, 2, none⟩ = some _ := hT1.cell (i := 2) rfl
  have f2 := hT1.free 2
  have y3 : W1.cell? ⟨w.heap.size + 1, 3, none⟩ = some _ := hT1.cell (i := 3) rfl
  have f3 := hT1.free 3
  have y4 : W1.cell? ⟨w.heap.size + 1, 4, none⟩ = some _ := hT1.cell (i := 4) rfl
  have f4 := hT1.free 4
  have y5 : W1.cell? ⟨w.heap.size + 1, 5, none⟩ = some _ := hT1.cell (i := 5) rfl
  have f5 := hT1.free 5
  have y6 : W1.cell? ⟨w.heap.size + 1, 6, none⟩ = some _ := hT1.cell (i := 6) rfl
  have f6 := hT1.free 6
  have s0 := set_self hT1 (i := 0) rfl
  have s1 := set_self hT1 (i := 1) rfl
  have s2 := set_self hT1 (i := 2) rfl
  have s3 := set_self hT1 (i := 3) rfl
  have s4 := set_self hT1 (i := 4) rfl
  have s5 := set_self hT1 (i := 5) rfl
  have s6 := set_self hT1 (i := 6) rfl
  go_wp2_with fail
  refine CW.out.mono ?_; rintro e W2 ⟨hR, hb2⟩
  have hT2 := hT1.ext hb2
  have hbw2 := ext_trans hbw hb2
  have hbs := hbw.size
  clear CW hT1 hbw hb2 y0 y1 y2 y3 y4 y5 y6 f0 f1 f2 f3 f4 f5 f6 s0 s1 s2 s3 s4 s5 s6 hS1
  clear x0 x1 x2 x3 x4 x5 x6
  rcases hR with ⟨i, hex, rfl⟩ | ⟨hex, q, vk, rfl, hq, hk⟩
  · have HR := Lib.hid (H3.out i hex)
    have y0 : W2.cell? ⟨w.heap.size + 1, 0, none⟩ = some _ := hT2.cell (i := 0) rfl
    have f0 := hT2.free 0
    have y1 : W2.cell? ⟨w.heap.size + 1, 1, none⟩ = some _ := hT2.cell (i := 1) rfl
    have f1 := hT2.free 1
    have y2 : W2.cell? ⟨w.heap.size + 1, 2, none⟩ = some _ := hT2.cell (i := 2) rfl
    have f2 := hT2.free 2
    have y3 : W2.cell? ⟨w.heap.size + 1, 3, none⟩ = some _ := hT2.cell (i := 3) rfl
    have f3 := hT2.free 3
    have y4 : W2.cell? ⟨w.heap.size + 1, 4, none⟩ = some _ := hT2.cell (i := 4) rfl
    have f4 := hT2.free 4
    have y5 : W2.cell? ⟨w.heap.size + 1, 5, none⟩ = some _ := hT2.cell (i := 5) rfl
    have f5 := hT2.free 5
    have y6 : W2.cell? ⟨w.heap.size + 1, 6, none⟩ = some _ := hT2.cell (i := 6) rfl
    have f6 := hT2.free 6
    have s0 := set_self hT2 (i := 0) rfl
    have s1 := set_self hT2 (i := 1) rfl
    have s2 := set_self hT2 (i := 2) rfl
    have s3 := set_self hT2 (i := 3) rfl
    have s4 := set_self hT2 (i := 4) rfl
    have s5 := set_self hT2 (i := 5) rfl
    have s6 := set_self hT2 (i := 6) rfl
    have hi0 : (i : Int) ≥ 0 := by omega
    clear H3 H4 H5 hex
    go_wp2
    refine bodyPost_ret (v := .tuple #[.agg #[.slice none 0 0, .slice none 0 0, .slice none 0 0, .slice none 0 0, .int .i64 0, .int .i64 0, .slice none 0 0], .slice none 0 0, .int .i64 (i : Int), .int .i64 9]) (by simp [results, Try.results36, go_sem, y0, y1, y2, y3, y4, y5, y6]) rfl ?_
    exact ⟨HR.out _, hbw2⟩
  · obtain ⟨Ak, ck, rfl, -, -, -⟩ := hk.cells encI_len
    rw [toI_len] at hk
    rw [toI_len]
    unfold shV
    have y0 : W2.cell? ⟨w.heap.size + 1, 0, none⟩ = some _ := hT2.cell (i := 0) rfl
    have f0 := hT2.free 0
    have y1 : W2.cell? ⟨w.heap.size + 1, 1, none⟩ = some _ := hT2.cell (i := 1) rfl
    have f1 := hT2.free 1
    have y2 : W2.cell? ⟨w.heap.size + 1, 2, none⟩ = some _ := hT2.cell (i := 2) rfl
    have f2 := hT2.free 2
    have y3 : W2.cell? ⟨w.heap.size + 1, 3, none⟩ = some _ := hT2.cell (i := 3) rfl
    have f3 := hT2.free 3
    have y4 : W2.cell? ⟨w.heap.size + 1, 4, none⟩ = some _ := hT2.cell (i := 4) rfl
    have f4 := hT2.free 4
    have y5 : W2.cell? ⟨w.heap.size + 1, 5, none⟩ = some _ := hT2.cell (i := 5) rfl
    have f5 := hT2.free 5
    have y6 : W2.cell? ⟨w.heap.size + 1, 6, none⟩ = some _ := hT2.cell (i := 6) rfl
    have f6 := hT2.free 6
    have H5 := Lib.hid (H5.out hex)
    have H4 := Lib.hid (H4.out hex)
    have Hk := Lib.hid hk
    have Hq := Lib.hid hq
    have Hb2 := Lib.hid hbw2
    obtain ⟨hT3, -, hQ⟩ := put7 hT2 (.slice q.A sl.acts.length q.cA) (.slice q.R sl.rest.length q.cR) (.slice q.I sl.ins.length q.cI) (.slice q.O sl.outs.length q.cO) (.int .i64 sl.cover) (.int .i64 sl.dull) (.slice q.B sl.before.length q.cB)
    have hb3 := Lib.hid (hQ w.heap.size w (by omega) hbw2)
    have hq3 := Lib.hid (hq.put7 hT2 (by decide) (by decide) (by decide) (by decide) (.slice q.A sl.acts.length q.cA) (.slice q.R sl.rest.length q.cR) (.slice q.I sl.ins.length q.cI) (.slice q.O sl.outs.length q.cO) (.int .i64 sl.cover) (.int .i64 sl.dull) (.slice q.B sl.before.length q.cB))
    have hk3 := Lib.hid (OwnL.up (put7o hT2 (.slice q.A sl.acts.length q.cA) (.slice q.R sl.rest.length q.cR) (.slice q.I sl.ins.length q.cI) (.slice q.O sl.outs.length q.cO) (.int .i64 sl.cover) (.int .i64 sl.dull) (.slice q.B sl.before.length q.cB) hk (by decide)) hbs)
    clear hk hq hbw2 hQ hT2 H3 hex
    go_upto_block 1 with fail
    clear y0 y1 y2 y3 y4 y5 y6 f0 f1 f2 f3 f4 f5 f6 Hk Hq Hb2
    generalize (((((((W2.setCell _ _).setCell _ _).setCell _ _).setCell _ _).setCell _ _).setCell _ _).setCell _ _) = V at *
    have y0 : V.cell? ⟨w.heap.size + 1, 0, none⟩ = some _ := hT3.cell (i := 0) rfl
    have f0 := hT3.free 0
    have y1 : V.cell? ⟨w.heap.size + 1, 1, none⟩ = some _ := hT3.cell (i := 1) rfl
    have f1 := hT3.free 1
    have y2 : V.cell? ⟨w.heap.size + 1, 2, none⟩ = some _ := hT3.cell (i := 2) rfl
    have f2 := hT3.free 2
    have y3 : V.cell? ⟨w.heap.size + 1, 3, none⟩ = some _ := hT3.cell (i := 3) rfl
    have f3 := hT3.free 3
    have y4 : V.cell? ⟨w.heap.size + 1, 4, none⟩ = some _ := hT3.cell (i := 4) rfl
    have f4 := hT3.free 4
    have y5 : V.cell? ⟨w.heap.size + 1, 5, none⟩ = some _ := hT3.cell (i := 5) rfl
    have f5 := hT3.free 5
    have y6 : V.cell? ⟨w.heap.size + 1, 6, none⟩ = some _ := hT3.cell (i := 6) rfl
    have f6 := hT3.free 6
    by_cases hkz : kt = []
    · have HR := Lib.hid (H4.out hkz)
      subst hkz
      obtain ⟨hT4, -, hQ⟩ := put7 hT3 (.slice none 0 0) (.slice none 0 0) (.slice none 0 0) (.slice none 0 0) (.int .i64 0) (.int .i64 0) (.slice none 0 0)
      have hb4 := Lib.hid (hQ w.heap.size w (by omega) hb3.out)
      have HT4 := Lib.hid hT4
      clear hQ hT4 hT3 H5 hk3 hq3 hb3 H4
      go_wp2
      clear y0 y1 y2 y3 y4 y5 y6 f0 f1 f2 f3 f4 f5 f6
      generalize (((((((V.setCell _ _).setCell _ _).setCell _ _).setCell _ _).setCell _ _).setCell _ _).setCell _ _) = U at *
      have hT4 := HT4.out
      have y0 : U.cell? ⟨w.heap.size + 1, 0, none⟩ = some _ := hT4.cell (i := 0) rfl
      have f0 := hT4.free 0
      have y1 : U.cell? ⟨w.heap.size + 1, 1, none⟩ = some _ := hT4.cell (i := 1) rfl
      have f1 := hT4.free 1
      have y2 : U.cell? ⟨w.heap.size + 1, 2, none⟩ = some _ := hT4.cell (i := 2) rfl
      have f2 := hT4.free 2
      have y3 : U.cell? ⟨w.heap.size + 1, 3, none⟩ = some _ := hT4.cell (i := 3) rfl
      have f3 := hT4.free 3
      have y4 : U.cell? ⟨w.heap.size + 1, 4, none⟩ = some _ := hT4.cell (i := 4) rfl
      have f4 := hT4.free 4
      have y5 : U.cell? ⟨w.heap.size + 1, 5, none⟩ = some _ := hT4.cell (i := 5) rfl
      have f5 := hT4.free 5
      have y6 : U.cell? ⟨w.heap.size + 1, 6, none⟩ = some _ := hT4.cell (i := 6) rfl
      have f6 := hT4.free 6
      refine bodyPost_ret (v := .tuple #[.agg #[.slice none 0 0, .slice none 0 0, .slice none 0 0, .slice none 0 0, .int .i64 0, .int .i64 0, .slice none 0 0], .slice none 0 0, .int .i64 0, .int .i64 7]) (by simp [results, Try.results36, go_sem, y0, y1, y2, y3, y4, y5, y6]) rfl ?_
      exact ⟨HR.out _, hb4.out⟩
    · have HR := Lib.hid (H5.out hkz)
      have hkl : ¬ ((kt.length : Int) = 0) := fun e => hkz (List.eq_nil_of_length_eq_zero (by omega))
      have s0 := set_self hT3 (i := 0) rfl
      have s1 := set_self hT3 (i := 1) rfl
      have s2 := set_self hT3 (i := 2) rfl
      have s3 := set_self hT3 (i := 3) rfl
      have s4 := set_self hT3 (i := 4) rfl
      have s5 := set_self hT3 (i := 5) rfl
      have s6 := set_self hT3 (i := 6) rfl
      clear H5 H4 hT3 hkz
      go_wp2
      refine bodyPost_ret (v := .tuple #[.agg #[.slice q.A sl.acts.length q.cA, .slice q.R sl.rest.length q.cR, .slice q.I sl.ins.length q.cI, .slice q.O sl.outs.length q.cO, .int .i64 sl.cover, .int .i64 sl.dull, .slice q.B sl.before.length q.cB], .slice Ak kt.length ck, .int .i64 0, .int .i64 0]) (by simp [results, Try.results36, go_sem, y0, y1, y2, y3, y4, y5, y6]) rfl ?_
      exact ⟨HR.out _ _ _ hq3.out hk3.out, hb3.out⟩
end Go.Proofs.Ytcnidhcdkbfpcaa

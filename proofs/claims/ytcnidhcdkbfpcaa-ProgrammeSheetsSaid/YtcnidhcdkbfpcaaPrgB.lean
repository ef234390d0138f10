/- Walk: is a show valid? -/
import Derived.Test.YtcnidhcdkbfpcaaPrgA
namespace Go.Proofs.Ytcnidhcdkbfpcaa
open Go.RowKit Go.Bs Go.Pg Go.Pl Go.Sort

theorem v1_ok (l : List Int) (w : World) : PredF Try.prog 61 #[] #[] (Value.int .i64) (fun n => btw n 0 30) w l := by
  intro W x hx hb
  have C1 := Lib.hid (fun W => within_any x 0 30 W)
  show Calls Try.prog 61 #[.int .i64 x] W fun e w' => e = .returned (.bool (btw x 0 30)) ∧ Below W.heap.size W w'
  generalize btw x 0 30 = b1 at *
  clear hx hb
  go_enter Try.func61, Try.ntmps61
  go_wp2_with fail
  refine (C1.out _).mono ?_; rintro e w1 ⟨rfl, rfl⟩
  go_wp2
  go_ret
  exact ⟨rfl, Below.refl _ _⟩
theorem v2_ok (l : List Int) (w : World) : PredF Try.prog 63 #[] #[] (Value.int .i64) (fun n => btw n 0 2) w l := by
  intro W x hx hb
  have C1 := Lib.hid (fun W => within_any x 0 2 W)
  show Calls Try.prog 63 #[.int .i64 x] W fun e w' => e = .returned (.bool (btw x 0 2)) ∧ Below W.heap.size W w'
  generalize btw x 0 2 = b1 at *
  clear hx hb
  go_enter Try.func63, Try.ntmps63
  go_wp2_with fail
  refine (C1.out _).mono ?_; rintro e w1 ⟨rfl, rfl⟩
  go_wp2
  go_ret
  exact ⟨rfl, Below.refl _ _⟩
theorem v3_any (x : Int) (B : Nat) (A : Option Addr) (n c : Nat) (W : World) (hn : n ≤ 1000) (hX : W.cell? ⟨B, 0, none⟩ = some (.slice A n c)) :
    Calls Try.prog 64 #[.int .i64 x, .pointer (some ⟨B, 0, none⟩)] W fun e w' => e = .returned (.bool (btw x 0 (n - 1))) ∧ W = w' := by
  have C1 := Lib.hid (fun W => within_any x 0 (n - 1) W)
  generalize btw x 0 (n - 1) = b1 at *
  go_enter Try.func64, Try.ntmps64
  go_wp2_with fail
  refine (C1.out _).mono ?_; rintro e w1 ⟨rfl, rfl⟩
  go_wp2
  go_ret
  exact ⟨rfl, rfl⟩
theorem v4_ok (B O : Nat) (A : Option Addr) (n c : Nat) (l : List (Int × Int)) (w : World) (hn : n ≤ 1000) (hX : w.cell? ⟨B, 0, none⟩ = some (.slice A n c)) (hO : w.cell? ⟨O, 0, none⟩ = some (.func (.func 64) #[] #[.pointer (some ⟨B, 0, none⟩)])) :
    PredF Try.prog 68 #[] #[.pointer (some ⟨O, 0, none⟩)] valP (fun p => btw p.1 0 (n - 1) && btw p.2 0 (n - 1) && decide (p.1 ≠ p.2)) w l := by
  intro W x hx hb
  obtain ⟨x0, x1⟩ := x
  have hb0 := ext_alloc W (.cells #[.int .i64 x0, .int .i64 x1] 84)
  have hP := Blk.new W 84 [.int .i64 x0, .int .i64 x1]
  have hX1 := cell_ext (cell_ext hX hb) hb0
  have hO1 := cell_ext (cell_ext hO hb) hb0
  have C1 := Lib.hid (v3_any x0 B A n c _ hn hX1)
  have C2 := Lib.hid (v3_any x1 B A n c _ hn hX1)
  show Calls Try.prog 68 #[.agg #[.int .i64 x0, .int .i64 x1], .pointer (some ⟨O, 0, none⟩)] W fun e w' => e = .returned (.bool (btw x0 0 (n - 1) && btw x1 0 (n - 1) && decide (x0 ≠ x1))) ∧ Below W.heap.size W w'
  generalize btw x0 0 (n - 1) = b1 at *
  generalize btw x1 0 (n - 1) = b2 at *
  clear hx hb hX hO hX1
  go_enter Try.func68, Try.ntmps68
  go_upto_region 1 with fail
  change Blk (W.alloc (.cells #[.int .i64 x0, .int .i64 x1] 84)) _ _ _ at hP
  generalize W.alloc (.cells #[.int .i64 x0, .int .i64 x1] 84) = W0 at *
  have c0 : W0.cell? ⟨W.heap.size, 0, none⟩ = _ := hP.cell rfl
  have c1 : W0.cell? ⟨W.heap.size, 1, none⟩ = _ := hP.cell rfl
  go_wp2_with fail
  refine C1.out.mono ?_; rintro e w1 ⟨rfl, rfl⟩
  cases b1
  · go_wp2
    go_ret
    exact ⟨rfl, hb0⟩
  go_wp2_with fail
  refine C2.out.mono ?_; rintro e w1 ⟨rfl, rfl⟩
  cases b2
  · go_wp2
    go_ret
    exact ⟨rfl, hb0⟩
  by_cases h : x0 = x1
  · go_wp2
    go_ret
    exact ⟨by simp [h], hb0⟩
  · go_wp2
    go_ret
    exact ⟨by simp [h], hb0⟩
theorem st1_ok (B : Nat) (A : Option Addr) (n c : Nat) (l : List Nat) (w : World) (hn : n ≤ 1000) (hl : ∀ x ∈ l, x < 65536) (hX : w.cell? ⟨B, 1, none⟩ = some (.slice A n c)) :
    PredF Try.prog 93 #[] #[.pointer (some ⟨B, 0, none⟩)] valU (fun x => fitsB x n) w l := by
  intro W x hx hb
  have hX1 := cell_ext hX hb
  have C1 := Lib.hid (fits_any x n W (hl x hx) hn)
  show Calls Try.prog 93 #[.int .u16 x, .pointer (some ⟨B, 0, none⟩)] W fun e w' => e = .returned (.bool (fitsB x n)) ∧ Below W.heap.size W w'
  generalize fitsB x n = b1 at *
  clear hx hb hX hl
  go_enter Try.func93, Try.ntmps93
  go_wp2_with fail
  refine C1.out.mono ?_; rintro e w1 ⟨rfl, rfl⟩
  go_wp2
  go_ret
  exact ⟨rfl, Below.refl _ _⟩
set_option maxHeartbeats 1000000 in
theorem staged_any (s : Sh) (p : ShP) (x : AcV) (w : World) (hr : s.rest.length ≤ 1000) (hi : s.ins.length ≤ 1000) (hx : x.a.rigs < 65536 ∧ x.a.casts.length ≤ 1000 ∧ ∀ c ∈ x.a.casts, c < 65536) (hC : Cells w x.C 1 encU x.a.casts) :
    Calls Try.prog 66 #[shV s p, AcV.val x] w fun e w' => e = .returned (.bool (s.staged x.a)) ∧ Below w.heap.size w w' := by
  obtain ⟨⟨mn, tn, rg, cs, sp⟩, C, c⟩ := x
  obtain ⟨hrg, hcl, hcs⟩ := hx
  simp only at hrg hcl hcs hC
  unfold shV AcV.val Sh.staged
  simp only
  have hb0 := ext_alloc w (.cells (shC s p).toArray 35)
  have hX := Blk.new w 35 (shC s p)
  have hs0 : (w.alloc (.cells (shC s p).toArray 35)).heap.size = w.heap.size + 1 := by simp
  have hb1 := ext_alloc (w.alloc (.cells (shC s p).toArray 35)) (.cells #[.int .i64 mn, .int .i64 tn, .int .u16 rg, .slice C cs.length c, .bool sp] 82)
  have hY := Blk.new (w.alloc (.cells (shC s p).toArray 35)) 82 [.int .i64 mn, .int .i64 tn, .int .u16 rg, .slice C cs.length c, .bool sp]
  have hX1 := hX.ext hb1
  have hbw : Below w.heap.size w _ := hb0.trans (hb1.mono (by omega))
  have hC1 := (hC.ext hb0).ext hb1
  have C1 := Lib.hid (fun W => within_any mn 1 60 W)
  have C2 := Lib.hid (fun W => within_any tn 0 100 W)
  have C3 := Lib.hid (fun W => fits_any rg s.ins.length W hrg hi)
  have C4 := Lib.hid (fun W => within_any cs.length 1 4 W)
  have C5 := Lib.hid (all_u16 93 #[] #[.pointer (some ⟨w.heap.size, 0, none⟩)] (fun x => fitsB x s.rest.length) C cs.length c cs _ (enters_of Try.func93 (by kernel_rfl) rfl) rfl (by omega) hC1 (st1_ok w.heap.size p.R s.rest.length p.cR cs _ hr hcs (hX1.cell rfl)))
  rw [hs0] at hY
  unfold shC at *
  generalize btw mn 1 60 = b1 at *
  generalize btw tn 0 100 = b2 at *
  generalize fitsB rg s.ins.length = b3 at *
  generalize btw cs.length 1 4 = b4 at *
  generalize (cs.all fun c => fitsB c s.rest.length) = b5 at *
  clear hX hb0 hb1 hC hC1 hcs hrg hr hi hs0
  go_enter Try.func66, Try.ntmps66
  go_upto_region 1 with fail
  change Blk ((w.alloc (.cells #[.slice p.A s.acts.length p.cA, .slice p.R s.rest.length p.cR, .slice p.I s.ins.length p.cI, .slice p.O s.outs.length p.cO, .int .i64 s.cover, .int .i64 s.dull, .slice p.B s.before.length p.cB] 35)).alloc (.cells #[.int .i64 mn, .int .i64 tn, .int .u16 rg, .slice C cs.length c, .bool sp] 82)) _ _ _ at hY
  generalize (w.alloc (.cells #[.slice p.A s.acts.length p.cA, .slice p.R s.rest.length p.cR, .slice p.I s.ins.length p.cI, .slice p.O s.outs.length p.cO, .int .i64 s.cover, .int .i64 s.dull, .slice p.B s.before.length p.cB] 35)).alloc (.cells #[.int .i64 mn, .int .i64 tn, .int .u16 rg, .slice C cs.length c, .bool sp] 82) = W0 at *
  have y0 : W0.cell? ⟨w.heap.size + 1, 0, none⟩ = _ := hY.cell rfl
  have y1 : W0.cell? ⟨w.heap.size + 1, 1, none⟩ = _ := hY.cell rfl
  have y2 : W0.cell? ⟨w.heap.size + 1, 2, none⟩ = _ := hY.cell rfl
  have y3 : W0.cell? ⟨w.heap.size + 1, 3, none⟩ = _ := hY.cell rfl
  have x2 : W0.cell? ⟨w.heap.size, 2, none⟩ = _ := hX1.cell rfl
  go_wp2_with fail
  refine (C1.out _).mono ?_; rintro e w1 ⟨rfl, rfl⟩
  cases b1
  · go_wp2
    go_ret
    exact ⟨rfl, hbw⟩
  go_wp2_with fail
  refine (C2.out _).mono ?_; rintro e w1 ⟨rfl, rfl⟩
  cases b2
  · go_wp2
    go_ret
    exact ⟨rfl, hbw⟩
  go_wp2_with fail
  refine (C3.out _).mono ?_; rintro e w1 ⟨rfl, rfl⟩
  cases b3
  · go_wp2
    go_ret
    exact ⟨rfl, hbw⟩
  go_wp2_with fail
  refine (C4.out _).mono ?_; rintro e w1 ⟨rfl, rfl⟩
  cases b4
  · go_wp2
    go_ret
    exact ⟨rfl, hbw⟩
  go_wp2_with fail
  refine C5.out.mono ?_; rintro e w1 ⟨rfl, hb1⟩
  go_wp2
  go_ret
  exact ⟨rfl, hbw.trans (hb1.mono hbw.size)⟩
end Go.Proofs.Ytcnidhcdkbfpcaa

/- Walks: the error, the cost and the sheet of an order; what the package hands out. (Printed by mk_prgl.py.) -/
import Derived.Test.YtcnidhcdkbfpcaaPrgK
namespace Go.Proofs.Ytcnidhcdkbfpcaa
open Go.RowKit Go.Bs Go.Pg Go.Pl Go.Sort
theorem check_any (s : Sh) (p : ShP) (w : World) (h : ShM w s p) : Calls Try.prog 29 #[shV s p] w fun e w' => e = .returned (.int .i64 (if s.okB = true then 0 else 1)) ∧ Below w.heap.size w w' := by
  have hb0 := ext_alloc w (.cells (shC s p).toArray 35)
  have hS := Blk.new w 35 (shC s p)
  have C1 := Lib.hid (valid_any s p (w.alloc (.cells (shC s p).toArray 35)) (h.ext hb0))
  generalize s.okB = b1 at *
  clear h
  unfold shV at *
  unfold shC at *
  go_enter Try.func29, Try.ntmps29
  go_upto_region 1 with fail
  generalize w.alloc (.cells #[.slice p.A s.acts.length p.cA, .slice p.R s.rest.length p.cR, .slice p.I s.ins.length p.cI, .slice p.O s.outs.length p.cO, .int .i64 s.cover, .int .i64 s.dull, .slice p.B s.before.length p.cB] 35) = W0 at *
  have x0 : W0.cell? ⟨w.heap.size, 0, none⟩ = _ := hS.cell (i := 0) rfl
  have x1 : W0.cell? ⟨w.heap.size, 1, none⟩ = _ := hS.cell (i := 1) rfl
  have x2 : W0.cell? ⟨w.heap.size, 2, none⟩ = _ := hS.cell (i := 2) rfl
  have x3 : W0.cell? ⟨w.heap.size, 3, none⟩ = _ := hS.cell (i := 3) rfl
  have x4 : W0.cell? ⟨w.heap.size, 4, none⟩ = _ := hS.cell (i := 4) rfl
  have x5 : W0.cell? ⟨w.heap.size, 5, none⟩ = _ := hS.cell (i := 5) rfl
  have x6 : W0.cell? ⟨w.heap.size, 6, none⟩ = _ := hS.cell (i := 6) rfl
  go_wp2_with fail
  refine C1.out.mono ?_; rintro e W1 ⟨rfl, hb1⟩
  have hw1 := hb0.trans (hb1.mono hb0.size)
  clear x0 x1 x2 x3 x4 x5 x6
  cases b1
  · go_wp2
    go_ret
    exact ⟨rfl, hw1⟩
  · go_wp2
    go_ret
    exact ⟨rfl, hw1⟩
/-- the error of Change -/
def chgE (s : Sh) (a b : Int) : Int := if s.okB = true then if btw a 0 (s.acts.length - 1) = true then if btw b 0 (s.acts.length - 1) = true then if a = b then 2 else 0 else 2 else 2 else 1
def ChgR (s : Sh) (a b : Int) (e : Ending) : Prop := ∃ x y z : Int, e = .returned (.tuple #[.int .i64 x, .int .i64 y, .int .i64 z]) ∧ z = chgE s a b ∧ (z ≠ 0 → x = 0 ∧ y = 0) ∧ (z = 0 → x = s.chM a.toNat b.toNat ∧ y = s.chC a.toNat b.toNat)
set_option maxHeartbeats 1000000 in
theorem Change_any (s : Sh) (p : ShP) (a b : Int) (w : World) (h : ShM w s p) :
    Calls Try.prog 28 #[shV s p, .int .i64 a, .int .i64 b] w fun e w' => ChgR s a b e ∧ Below w.heap.size w w' := by
  have m1 := h.small.1
  have hb0 := ext_alloc w (.cells (shC s p).toArray 35)
  have hS := Blk.new w 35 (shC s p)
  have C1 := Lib.hid (valid_any s p (w.alloc (.cells (shC s p).toArray 35)) (h.ext hb0))
  have C2 := Lib.hid (fun W => within_any a 0 (s.acts.length - 1) W)
  have C3 := Lib.hid (fun W => within_any b 0 (s.acts.length - 1) W)
  have C4 := Lib.hid (fun W (hW : Below w.heap.size w W) (hok : s.okB = true) (i j : Nat) (hi : i < s.acts.length) (hj : j < s.acts.length) => change_any s p i j W (h.ext hW) (Sh.ok_of hok) hi hj)
  clear h
  have ha := Lib.hid (fun (h : btw a 0 (s.acts.length - 1) = true) => (btw_iff.1 h : 0 ≤ a ∧ a ≤ (s.acts.length : Int) - 1))
  have hb := Lib.hid (fun (h : btw b 0 (s.acts.length - 1) = true) => (btw_iff.1 h : 0 ≤ b ∧ b ≤ (s.acts.length : Int) - 1))
  have HE := Lib.hid (show chgE s a b = (if s.okB = true then if btw a 0 (s.acts.length - 1) = true then if btw b 0 (s.acts.length - 1) = true then if a = b then 2 else 0 else 2 else 2 else 1) from rfl)
  generalize s.okB = b1 at *
  generalize btw a 0 (s.acts.length - 1) = b2 at *
  generalize btw b 0 (s.acts.length - 1) = b3 at *
  unfold shV at *
  unfold shC at *
  go_enter Try.func28, Try.ntmps28
  go_upto_region 1 with fail
  generalize w.alloc (.cells #[.slice p.A s.acts.length p.cA, .slice p.R s.rest.length p.cR, .slice p.I s.ins.length p.cI, .slice p.O s.outs.length p.cO, .int .i64 s.cover, .int .i64 s.dull, .slice p.B s.before.length p.cB] 35) = W0 at *
  have x0 : W0.cell? ⟨w.heap.size, 0, none⟩ = _ := hS.cell (i := 0) rfl
  have x1 : W0.cell? ⟨w.heap.size, 1, none⟩ = _ := hS.cell (i := 1) rfl
  have x2 : W0.cell? ⟨w.heap.size, 2, none⟩ = _ := hS.cell (i := 2) rfl
  have x3 : W0.cell? ⟨w.heap.size, 3, none⟩ = _ := hS.cell (i := 3) rfl
  have x4 : W0.cell? ⟨w.heap.size, 4, none⟩ = _ := hS.cell (i := 4) rfl
  have x5 : W0.cell? ⟨w.heap.size, 5, none⟩ = _ := hS.cell (i := 5) rfl
  have x6 : W0.cell? ⟨w.heap.size, 6, none⟩ = _ := hS.cell (i := 6) rfl
  go_wp2_with fail
  refine C1.out.mono ?_; rintro e W1 ⟨rfl, hb1⟩
  have hw1 := hb0.trans (hb1.mono hb0.size)
  have hS1 := hS.ext hb1
  clear x0 x1 x2 x3 x4 x5 x6
  have x0 : W1.cell? ⟨w.heap.size, 0, none⟩ = _ := hS1.cell (i := 0) rfl
  have x1 : W1.cell? ⟨w.heap.size, 1, none⟩ = _ := hS1.cell (i := 1) rfl
  have x2 : W1.cell? ⟨w.heap.size, 2, none⟩ = _ := hS1.cell (i := 2) rfl
  have x3 : W1.cell? ⟨w.heap.size, 3, none⟩ = _ := hS1.cell (i := 3) rfl
  have x4 : W1.cell? ⟨w.heap.size, 4, none⟩ = _ := hS1.cell (i := 4) rfl
  have x5 : W1.cell? ⟨w.heap.size, 5, none⟩ = _ := hS1.cell (i := 5) rfl
  have x6 : W1.cell? ⟨w.heap.size, 6, none⟩ = _ := hS1.cell (i := 6) rfl
  cases b1
  · go_wp2
    refine bodyPost_ret (v := .tuple #[.int .i64 0, .int .i64 0, .int .i64 1]) (by simp [results, Try.results28, go_sem]) rfl ?_
    exact ⟨⟨0, 0, 1, rfl, by rw [HE.out]; rfl, fun _ => ⟨rfl, rfl⟩, fun h => by omega⟩, hw1⟩
  go_wp2_with fail
  refine (C2.out _).mono ?_; rintro e w1 ⟨rfl, rfl⟩
  cases b2
  · go_wp2
    refine bodyPost_ret (v := .tuple #[.int .i64 0, .int .i64 0, .int .i64 2]) (by simp [results, Try.results28, go_sem]) rfl ?_
    exact ⟨⟨0, 0, 2, rfl, by rw [HE.out]; rfl, fun _ => ⟨rfl, rfl⟩, fun h => by omega⟩, hw1⟩
  go_wp2_with fail
  refine (C3.out _).mono ?_; rintro e w1 ⟨rfl, rfl⟩
  cases b3
  · go_wp2
    refine bodyPost_ret (v := .tuple #[.int .i64 0, .int .i64 0, .int .i64 2]) (by simp [results, Try.results28, go_sem]) rfl ?_
    exact ⟨⟨0, 0, 2, rfl, by rw [HE.out]; rfl, fun _ => ⟨rfl, rfl⟩, fun h => by omega⟩, hw1⟩
  by_cases he : a = b
  · have He := Lib.hid he
    go_wp2
    refine bodyPost_ret (v := .tuple #[.int .i64 0, .int .i64 0, .int .i64 2]) (by simp [results, Try.results28, go_sem]) rfl ?_
    exact ⟨⟨0, 0, 2, rfl, by rw [HE.out]; simp [He.out], fun _ => ⟨rfl, rfl⟩, fun h => by omega⟩, hw1⟩
  · have Ha := ha.out (by first | rfl | trivial)
    have Hb := hb.out (by first | rfl | trivial)
    obtain ⟨i, rfl⟩ : ∃ i : Nat, a = i := ⟨a.toNat, by omega⟩
    obtain ⟨j, rfl⟩ : ∃ j : Nat, b = j := ⟨b.toNat, by omega⟩
    have hne : ((i : Int) == j) = false := by simpa using he
    have CC := Lib.hid (C4.out W1 hw1 (by first | rfl | trivial) i j (by omega) (by omega))
    have He := Lib.hid he
    clear C1 C2 C3 C4 ha hb he
    go_wp2_with fail
    refine CC.out.mono ?_; rintro e W2 ⟨rfl, hb2⟩
    go_wp2
    refine bodyPost_ret (v := .tuple #[.int .i64 (s.chM i j), .int .i64 (s.chC i j), .int .i64 0]) (by simp [results, Try.results28, go_sem]) rfl ?_
    exact ⟨⟨_, _, 0, rfl, by rw [HE.out]; simp [He.out], fun h => absurd rfl h, fun _ => ⟨by rw [Int.toNat_natCast, Int.toNat_natCast], by rw [Int.toNat_natCast, Int.toNat_natCast]⟩⟩, hw1.trans (hb2.mono hw1.size)⟩
end Go.Proofs.Ytcnidhcdkbfpcaa

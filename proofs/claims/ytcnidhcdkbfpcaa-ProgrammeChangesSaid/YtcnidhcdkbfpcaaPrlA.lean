/- The law ProgrammeChanges: its walk. -/
import Derived.Test.YtcnidhcdkbfpcaaPrhL
import Derived.Test.YtcnidhcdkbfpcaaPrhG
namespace Go.Proofs.Ytcnidhcdkbfpcaa
open Go.RowKit Go.Bs Go.Pg Go.Pl Go.Sort
set_option maxRecDepth 100000 in
set_option maxHeartbeats 10000000 in
theorem changes_law (s : Sh) (p : ShP) (a b : Int) (w : World) (h : ShW w s p) :
    Calls Try.prog 6 #[shV s p, .int .i64 a, .int .i64 b] w fun e w' => e = .returned (.bool true) ∧ Below w.heap.size w w' := by
  have hb0 := ext_alloc w (.cells (shC s p).toArray 26)
  have hS := Blk.new w 26 (shC s p)
  have h0 := h.ext hb0
  clear h
  unfold shV at *
  unfold shC at *
  go_enter Try.func6, Try.ntmps6
  go_upto_region 1 with fail
  change Blk (w.alloc (.cells #[.slice p.A s.acts.length p.cA, .slice p.R s.rest.length p.cR, .slice p.I s.ins.length p.cI, .slice p.O s.outs.length p.cO, .int .i64 s.cover, .int .i64 s.dull, .slice p.B s.before.length p.cB] 26)) _ _ _ at hS
  generalize w.alloc (.cells #[.slice p.A s.acts.length p.cA, .slice p.R s.rest.length p.cR, .slice p.I s.ins.length p.cI, .slice p.O s.outs.length p.cO, .int .i64 s.cover, .int .i64 s.dull, .slice p.B s.before.length p.cB] 26) = W0 at *
  have x0 : W0.cell? ⟨w.heap.size, 0, none⟩ = _ := hS.cell (i := 0) rfl
  have x1 : W0.cell? ⟨w.heap.size, 1, none⟩ = _ := hS.cell (i := 1) rfl
  have x2 : W0.cell? ⟨w.heap.size, 2, none⟩ = _ := hS.cell (i := 2) rfl
  have x3 : W0.cell? ⟨w.heap.size, 3, none⟩ = _ := hS.cell (i := 3) rfl
  have x4 : W0.cell? ⟨w.heap.size, 4, none⟩ = _ := hS.cell (i := 4) rfl
  have x5 : W0.cell? ⟨w.heap.size, 5, none⟩ = _ := hS.cell (i := 5) rfl
  have x6 : W0.cell? ⟨w.heap.size, 6, none⟩ = _ := hS.cell (i := 6) rfl
  go_wp2_with fail
  refine (Few_any s p W0 h0).mono ?_; rintro e W1 ⟨rfl, hb1⟩
  cases hf : s.fewB
  · clear x0 x1 x2 x3 x4 x5 x6
    go_wp2_with fail
    refine (wakes_any _).mono ?_; rintro e wz ⟨rfl, hbz⟩
    go_wp2
    go_ret
    exact ⟨rfl, ext_trans (ext_trans hb0 hb1) hbz⟩
  have hm := (h0.few hf).ext hb1
  have hS1 := hS.ext hb1
  have hbw := ext_trans hb0 hb1
  clear hb0 hb1 h0 hS hf x0 x1 x2 x3 x4 x5 x6
  have x0 : W1.cell? ⟨w.heap.size, 0, none⟩ = _ := hS1.cell (i := 0) rfl
  have x1 : W1.cell? ⟨w.heap.size, 1, none⟩ = _ := hS1.cell (i := 1) rfl
  have x2 : W1.cell? ⟨w.heap.size, 2, none⟩ = _ := hS1.cell (i := 2) rfl
  have x3 : W1.cell? ⟨w.heap.size, 3, none⟩ = _ := hS1.cell (i := 3) rfl
  have x4 : W1.cell? ⟨w.heap.size, 4, none⟩ = _ := hS1.cell (i := 4) rfl
  have x5 : W1.cell? ⟨w.heap.size, 5, none⟩ = _ := hS1.cell (i := 5) rfl
  have x6 : W1.cell? ⟨w.heap.size, 6, none⟩ = _ := hS1.cell (i := 6) rfl
  go_wp2_with fail
  refine (Show_any s p W1 hm).mono ?_; rintro e W2 ⟨⟨p1, rfl, hm1⟩, hb2⟩
  go_wp2_with fail
  refine (Change_any s p1 a b W2 hm1).mono ?_; rintro e W3 ⟨⟨x, y, z, rfl, hz, hz0, hz1⟩, hb3⟩
  have hb23 := ext_trans hb2 hb3
  have hm3 := hm.ext hb23
  have hS3 := hS1.ext hb23
  have hbw3 := ext_trans hbw hb23
  clear hm1 hm hS1 hbw hb2 hb3 hb23 x0 x1 x2 x3 x4 x5 x6
  have Hz := Lib.hid hz
  have Hz0 := Lib.hid hz0
  have Hz1 := Lib.hid hz1
  clear hz hz0 hz1
  go_upto_region 4 with fail
  have x0 : W3.cell? ⟨w.heap.size, 0, none⟩ = _ := hS3.cell (i := 0) rfl
  have x1 : W3.cell? ⟨w.heap.size, 1, none⟩ = _ := hS3.cell (i := 1) rfl
  have x2 : W3.cell? ⟨w.heap.size, 2, none⟩ = _ := hS3.cell (i := 2) rfl
  have x3 : W3.cell? ⟨w.heap.size, 3, none⟩ = _ := hS3.cell (i := 3) rfl
  have x4 : W3.cell? ⟨w.heap.size, 4, none⟩ = _ := hS3.cell (i := 4) rfl
  have x5 : W3.cell? ⟨w.heap.size, 5, none⟩ = _ := hS3.cell (i := 5) rfl
  have x6 : W3.cell? ⟨w.heap.size, 6, none⟩ = _ := hS3.cell (i := 6) rfl
  go_wp2_with fail
  refine (Right_any s p W3 hm3).mono ?_; rintro e W4 ⟨rfl, hb4⟩
  have hm4 := hm3.ext hb4
  have hS4 := hS3.ext hb4
  have hbw4 := ext_trans hbw3 hb4
  clear hm3 hS3 hbw3 hb4 x0 x1 x2 x3 x4 x5 x6
  have x0 : W4.cell? ⟨w.heap.size, 0, none⟩ = _ := hS4.cell (i := 0) rfl
  have x1 : W4.cell? ⟨w.heap.size, 1, none⟩ = _ := hS4.cell (i := 1) rfl
  have x2 : W4.cell? ⟨w.heap.size, 2, none⟩ = _ := hS4.cell (i := 2) rfl
  have x3 : W4.cell? ⟨w.heap.size, 3, none⟩ = _ := hS4.cell (i := 3) rfl
  have x4 : W4.cell? ⟨w.heap.size, 4, none⟩ = _ := hS4.cell (i := 4) rfl
  have x5 : W4.cell? ⟨w.heap.size, 5, none⟩ = _ := hS4.cell (i := 5) rfl
  have x6 : W4.cell? ⟨w.heap.size, 6, none⟩ = _ := hS4.cell (i := 6) rfl
  cases hok : s.okB
  · have hz : z = 1 := by rw [Hz.out]; unfold chgE; rw [hok]; rfl
    obtain ⟨rfl, rfl⟩ := Hz0.out (by omega)
    subst hz
    clear Hz Hz0 Hz1
    go_wp2_with fail
    refine (Show_any s p W4 hm4).mono ?_; rintro e W5 ⟨⟨p2, rfl, hm5⟩, hb5⟩
    have C := check_any s p2 W5 hm5
    rw [hok] at C
    have C := Lib.hid C
    clear hok
    go_wp2_with fail
    refine (C.out).mono ?_; rintro e W6 ⟨rfl, hb6⟩
    go_wp2_with fail
    refine (wakes_any _).mono ?_; rintro e wz ⟨rfl, hbz⟩
    go_wp2
    go_ret
    exact ⟨rfl, ext_trans (ext_trans hbw4 (ext_trans hb5 hb6)) hbz⟩
  go_wp2_with fail
  refine (Show_any s p W4 hm4).mono ?_; rintro e W5 ⟨⟨p2, rfl, hm5⟩, hb5⟩
  have C := check_any s p2 W5 hm5
  rw [hok] at C
  have C := Lib.hid C
  have Hok := Lib.hid hok
  go_wp2_with fail
  refine (C.out).mono ?_; rintro e W6 ⟨rfl, hb6⟩
  have hb46 := ext_trans hb5 hb6
  have hm6 := hm4.ext hb46
  have hS6 := hS4.ext hb46
  have hbw6 := ext_trans hbw4 hb46
  clear hm5 hm4 hS4 hbw4 hb5 hb6 hb46 x0 x1 x2 x3 x4 x5 x6 C hok
  go_upto_region 8 with fail
  have x0 : W6.cell? ⟨w.heap.size, 0, none⟩ = _ := hS6.cell (i := 0) rfl
  have CA := In_any a 0 (s.acts.length - 1) W6
  have CB := In_any b 0 (s.acts.length - 1) W6
  have small := hm6.small.1
  have Hze := Hz.out
  unfold chgE at Hze
  rw [Hok.out] at Hze
  cases ha : btw a 0 (s.acts.length - 1)
  · rw [ha] at CA Hze
    have hz : z = 2 := Hze
    obtain ⟨rfl, rfl⟩ := Hz0.out (by omega)
    subst hz
    have CA := Lib.hid CA
    clear Hz Hz0 Hz1 Hze ha CB
    go_wp2_with fail
    refine (CA.out).mono ?_; rintro e W7 ⟨rfl, rfl⟩
    go_wp2_with fail
    refine (wakes_any _).mono ?_; rintro e wz ⟨rfl, hbz⟩
    go_wp2
    go_ret
    exact ⟨rfl, ext_trans hbw6 hbz⟩
  rw [ha] at CA Hze
  have CA := Lib.hid CA
  cases hb : btw b 0 (s.acts.length - 1)
  · rw [hb] at CB Hze
    have hz : z = 2 := Hze
    obtain ⟨rfl, rfl⟩ := Hz0.out (by omega)
    subst hz
    have CB := Lib.hid CB
    clear Hz Hz0 Hz1 Hze ha hb
    go_wp2_with fail
    refine (CA.out).mono ?_; rintro e W7 ⟨rfl, rfl⟩
    go_wp2_with fail
    refine (CB.out).mono ?_; rintro e W7 ⟨rfl, rfl⟩
    go_wp2_with fail
    refine (wakes_any _).mono ?_; rintro e wz ⟨rfl, hbz⟩
    go_wp2
    go_ret
    exact ⟨rfl, ext_trans hbw6 hbz⟩
  rw [hb] at CB Hze
  have CB := Lib.hid CB
  by_cases he : a = b
  · have hz : z = 2 := by rw [Hze]; simp [he]
    obtain ⟨rfl, rfl⟩ := Hz0.out (by omega)
    subst hz
    subst he
    clear Hz Hz0 Hz1 Hze ha hb
    go_wp2_with fail
    refine (CA.out).mono ?_; rintro e W7 ⟨rfl, rfl⟩
    go_wp2_with fail
    refine (CB.out).mono ?_; rintro e W7 ⟨rfl, rfl⟩
    go_wp2_with fail
    refine (wakes_any _).mono ?_; rintro e wz ⟨rfl, hbz⟩
    go_wp2
    go_ret
    exact ⟨rfl, ext_trans hbw6 hbz⟩
  have hz : z = 0 := by rw [Hze]; simp [he]
  obtain ⟨hx, hy⟩ := Hz1.out hz
  have ha2 := btw_iff.1 ha
  have hb2 := btw_iff.1 hb
  obtain ⟨i, rfl⟩ : ∃ i : Nat, a = i := ⟨a.toNat, by omega⟩
  obtain ⟨k, rfl⟩ : ∃ k : Nat, b = k := ⟨b.toNat, by omega⟩
  simp only [Int.toNat_natCast] at hx hy
  subst hz
  have CR := Lib.hid (fun W hW => RChange_any s p i k W hW (Sh.ok_of Hok.out) (by omega) (by omega))
  rw [← hx, ← hy] at CR
  have hne : ((i : Int) == (k : Int)) = false := by simp; omega
  have Hhe := Lib.hid he
  clear Hz Hz0 Hz1 Hze ha hb he hx hy
  go_wp2_with fail
  refine (CA.out).mono ?_; rintro e W7 ⟨rfl, rfl⟩
  go_wp2_with fail
  refine (CB.out).mono ?_; rintro e W7 ⟨rfl, rfl⟩
  clear x0 CA CB
  go_upto_region 10 with fail
  have x0 : W6.cell? ⟨w.heap.size, 0, none⟩ = _ := hS6.cell (i := 0) rfl
  have x1 : W6.cell? ⟨w.heap.size, 1, none⟩ = _ := hS6.cell (i := 1) rfl
  have x2 : W6.cell? ⟨w.heap.size, 2, none⟩ = _ := hS6.cell (i := 2) rfl
  have x3 : W6.cell? ⟨w.heap.size, 3, none⟩ = _ := hS6.cell (i := 3) rfl
  have x4 : W6.cell? ⟨w.heap.size, 4, none⟩ = _ := hS6.cell (i := 4) rfl
  have x5 : W6.cell? ⟨w.heap.size, 5, none⟩ = _ := hS6.cell (i := 5) rfl
  have x6 : W6.cell? ⟨w.heap.size, 6, none⟩ = _ := hS6.cell (i := 6) rfl
  go_wp2_with fail
  refine (CR.out W6 hm6).mono ?_; rintro e W7 ⟨rfl, hb7⟩
  go_wp2_with fail
  refine (wakes_any _).mono ?_; rintro e wz ⟨rfl, hbz⟩
  go_wp2
  go_ret
  exact ⟨rfl, ext_trans (ext_trans hbw6 hb7) hbz⟩
end Go.Proofs.Ytcnidhcdkbfpcaa

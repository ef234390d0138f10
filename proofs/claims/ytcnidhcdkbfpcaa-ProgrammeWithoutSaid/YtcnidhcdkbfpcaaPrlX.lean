/- The law ProgrammeWithout: its walk. -/
import Derived.Test.YtcnidhcdkbfpcaaPrlU
import Derived.Test.YtcnidhcdkbfpcaaPrlV
import Derived.Test.YtcnidhcdkbfpcaaPrlW
import Derived.Test.YtcnidhcdkbfpcaaPgI
import Derived.Test.YtcnidhcdkbfpcaaPgJ
namespace Go.Proofs.Ytcnidhcdkbfpcaa
open Go.RowKit Go.Bs Go.Pg Go.Pl Go.Sort
def shZ : Sh := ⟨[], [], [], [], 0, 0, []⟩
def shZP : ShP := ⟨[], none, none, none, none, none, 0, 0, 0, 0, 0⟩
theorem shM_zero (W : World) : ShM W shZ shZP :=
  ⟨rfl, Cells.nil, by simp [shZP], Cells.nil, Cells.nil, Cells.nil, Cells.nil, by simp [shZ], by simp [shZ]⟩
set_option maxRecDepth 100000 in
set_option maxHeartbeats 10000000 in
theorem without_law (s : Sh) (p : ShP) (pn : Int) (w : World) (h : ShW w s p) :
    Calls Try.prog 9 #[shV s p, .int .i64 pn] w fun e w' => e = .returned (.bool true) ∧ Below w.heap.size w w' := by
  have hb0 := ext_alloc w (.cells (shC s p).toArray 26)
  have hS := Blk.new w 26 (shC s p)
  have h0 := h.ext hb0
  clear h
  unfold shV at *
  unfold shC at *
  go_enter Try.func9, Try.ntmps9
  go_upto_region 1 with fail
  change Blk (w.alloc (.cells #[.slice p.A s.acts.length p.cA, .slice p.R s.rest.length p.cR, .slice p.I s.ins.length p.cI, .slice p.O s.outs.length p.cO, .int .i64 s.cover, .int .i64 s.dull, .slice p.B s.before.length p.cB] 26)) _ _ _ at hS
  generalize w.alloc (.cells #[.slice p.A s.acts.length p.cA, .slice p.R s.rest.length p.cR, .slice p.I s.ins.length p.cI, .slice p.O s.outs.length p.cO, .int .i64 s.cover, .int .i64 s.dull, .slice p.B s.before.length p.cB] 26) = W0 at *
  have x0 : W0.cell? ⟨w.heap.size, 0, none⟩ = _ := hS.cell (i := 0) rfl
  have x1 : W0.cell? ⟨w.heap.size, 1, none⟩ = _ := hS.cell (i := 1) rfl
  have x2 : W0.cell? ⟨w.heap.size, 2, none⟩ = _ := hS.cell (i := 2) rfl
  have x3 : W0.cell? ⟨w.heap.size, 3, none⟩ = _ := hS.cell (i := 3) rfl
  have x4 : W0.cell? ⟨w.heap.size, 4, none⟩ = _ := hS.cell (i := 4) rfl
  have x5 : W0.cell? ⟨w.heap.size, 5, none⟩ = _ := hS.cell (i := 5) rfl
  have x6 : W0.cell? ⟨w.heap.size, 6, none⟩ = _ := hS.cell (i := 6) rfl
  go_wp2_with fail
  refine (Few_any s p W0 h0).mono ?_; rintro e W1 ⟨rfl, hb1⟩
  cases hf : s.fewB
  · clear x0 x1 x2 x3 x4 x5 x6
    go_wp2_with fail
    refine (wakes_any _).mono ?_; rintro e wz ⟨rfl, hbz⟩
    go_wp2
    go_ret
    exact ⟨rfl, ext_trans (ext_trans hb0 hb1) hbz⟩
  have hm1 := (h0.few hf).ext hb1
  have hS1 := hS.ext hb1
  have hbw := ext_trans hb0 hb1
  clear hb0 hb1 h0 hS hf x0 x1 x2 x3 x4 x5 x6
  have x0 : W1.cell? ⟨w.heap.size, 0, none⟩ = _ := hS1.cell (i := 0) rfl
  have x1 : W1.cell? ⟨w.heap.size, 1, none⟩ = _ := hS1.cell (i := 1) rfl
  have x2 : W1.cell? ⟨w.heap.size, 2, none⟩ = _ := hS1.cell (i := 2) rfl
  have x3 : W1.cell? ⟨w.heap.size, 3, none⟩ = _ := hS1.cell (i := 3) rfl
  have x4 : W1.cell? ⟨w.heap.size, 4, none⟩ = _ := hS1.cell (i := 4) rfl
  have x5 : W1.cell? ⟨w.heap.size, 5, none⟩ = _ := hS1.cell (i := 5) rfl
  have x6 : W1.cell? ⟨w.heap.size, 6, none⟩ = _ := hS1.cell (i := 6) rfl
  go_wp2_with fail
  refine (Show_any s p W1 hm1).mono ?_; rintro e W2 ⟨⟨p1, rfl, hm2⟩, hb2⟩
  go_wp2_with fail
  refine (Without_any s p1 pn W2 hm2).mono ?_; rintro e W3 ⟨hR, hb3⟩
  clear x0 x1 x2 x3 x4 x5 x6
  have hb23 := ext_trans hb2 hb3
  have hm3 := hm1.ext hb23
  have hS3 := hS1.ext hb23
  have hbw3 := ext_trans hbw hb23
  clear hm1 hS1 hbw hb2 hb3 hb23 hm2
  have hres : Hid True := Lib.hid trivial
  have m2 := hm3.small.2.1
  rcases hR with ⟨hok, rfl⟩ | ⟨hok, hn, rfl⟩ | ⟨hok, hn, hR⟩
  · clear hres
    go_upto_region 4 with fail
    have hY : Blk (W3.alloc (.cells #[.slice none 0 0, .slice none 0 0, .slice none 0 0, .slice none 0 0, .int .i64 0, .int .i64 0, .slice none 0 0] 35)) W3.heap.size 35 zerC := Blk.new W3 35 zerC
    have hAl := ext_alloc W3 (.cells #[.slice none 0 0, .slice none 0 0, .slice none 0 0, .slice none 0 0, .int .i64 0, .int .i64 0, .slice none 0 0] 35)
    have hm4 := hm3.ext hAl
    have hS4 := hS3.ext hAl
    have hbw4 := ext_trans hbw3 hAl
    clear hm3 hS3 hbw3 hAl
    generalize W3.heap.size = X at *
    generalize W3.alloc (.cells #[.slice none 0 0, .slice none 0 0, .slice none 0 0, .slice none 0 0, .int .i64 0, .int .i64 0, .slice none 0 0] 35) = W4 at *
    have x0 : W4.cell? ⟨w.heap.size, 0, none⟩ = _ := hS4.cell (i := 0) rfl
    have x1 : W4.cell? ⟨w.heap.size, 1, none⟩ = _ := hS4.cell (i := 1) rfl
    have x2 : W4.cell? ⟨w.heap.size, 2, none⟩ = _ := hS4.cell (i := 2) rfl
    have x3 : W4.cell? ⟨w.heap.size, 3, none⟩ = _ := hS4.cell (i := 3) rfl
    have x4 : W4.cell? ⟨w.heap.size, 4, none⟩ = _ := hS4.cell (i := 4) rfl
    have x5 : W4.cell? ⟨w.heap.size, 5, none⟩ = _ := hS4.cell (i := 5) rfl
    have x6 : W4.cell? ⟨w.heap.size, 6, none⟩ = _ := hS4.cell (i := 6) rfl
    have CR := Lib.hid (Right_any s p W4 hm4)
    rw [hok] at CR
    go_wp2_with fail
    refine CR.out.mono ?_; rintro e W5 ⟨rfl, hb5⟩
    clear x0 x1 x2 x3 x4 x5 x6
    clear CR
    have hY5 := hY.ext hb5
    have hbw5 := ext_trans hbw4 hb5
    unfold zerC at hY5
    clear hY hS4 hm4 hbw4 hb5 hok
    have y0 : W5.cell? ⟨X, 0, none⟩ = some _ := hY5.cell (i := 0) rfl
    have y1 : W5.cell? ⟨X, 1, none⟩ = some _ := hY5.cell (i := 1) rfl
    have y2 : W5.cell? ⟨X, 2, none⟩ = some _ := hY5.cell (i := 2) rfl
    have y3 : W5.cell? ⟨X, 3, none⟩ = some _ := hY5.cell (i := 3) rfl
    have y4 : W5.cell? ⟨X, 4, none⟩ = some _ := hY5.cell (i := 4) rfl
    have y5 : W5.cell? ⟨X, 5, none⟩ = some _ := hY5.cell (i := 5) rfl
    have y6 : W5.cell? ⟨X, 6, none⟩ = some _ := hY5.cell (i := 6) rfl
    go_wp2_with fail
    refine (shows_any shZ shZP shZP W5 (shM_zero _) (shM_zero _)).mono ?_; rintro e W6 ⟨rfl, hbs⟩
    go_wp2_with fail
    refine (wakes_any _).mono ?_; rintro e wz ⟨rfl, hbz⟩
    go_wp2
    go_ret
    exact ⟨rfl, ext_trans (ext_trans hbw5 hbs) hbz⟩
  · clear hres
    go_upto_region 4 with fail
    have hY : Blk (W3.alloc (.cells #[.slice none 0 0, .slice none 0 0, .slice none 0 0, .slice none 0 0, .int .i64 0, .int .i64 0, .slice none 0 0] 35)) W3.heap.size 35 zerC := Blk.new W3 35 zerC
    have hAl := ext_alloc W3 (.cells #[.slice none 0 0, .slice none 0 0, .slice none 0 0, .slice none 0 0, .int .i64 0, .int .i64 0, .slice none 0 0] 35)
    have hm4 := hm3.ext hAl
    have hS4 := hS3.ext hAl
    have hbw4 := ext_trans hbw3 hAl
    clear hm3 hS3 hbw3 hAl
    generalize W3.heap.size = X at *
    generalize W3.alloc (.cells #[.slice none 0 0, .slice none 0 0, .slice none 0 0, .slice none 0 0, .int .i64 0, .int .i64 0, .slice none 0 0] 35) = W4 at *
    have x0 : W4.cell? ⟨w.heap.size, 0, none⟩ = _ := hS4.cell (i := 0) rfl
    have x1 : W4.cell? ⟨w.heap.size, 1, none⟩ = _ := hS4.cell (i := 1) rfl
    have x2 : W4.cell? ⟨w.heap.size, 2, none⟩ = _ := hS4.cell (i := 2) rfl
    have x3 : W4.cell? ⟨w.heap.size, 3, none⟩ = _ := hS4.cell (i := 3) rfl
    have x4 : W4.cell? ⟨w.heap.size, 4, none⟩ = _ := hS4.cell (i := 4) rfl
    have x5 : W4.cell? ⟨w.heap.size, 5, none⟩ = _ := hS4.cell (i := 5) rfl
    have x6 : W4.cell? ⟨w.heap.size, 6, none⟩ = _ := hS4.cell (i := 6) rfl
    have CR := Lib.hid (Right_any s p W4 hm4)
    rw [hok] at CR
    go_wp2_with fail
    refine CR.out.mono ?_; rintro e W5 ⟨rfl, hb5⟩
    clear x0 x1 x2 x3 x4 x5 x6
    clear CR
    have hY5 := hY.ext hb5
    have hS5 := hS4.ext hb5
    have hbw5 := ext_trans hbw4 hb5
    unfold zerC at hY5
    clear hY hS4 hm4 hbw4 hb5 hok
    have x1 : W5.cell? ⟨w.heap.size, 1, none⟩ = _ := hS5.cell (i := 1) rfl
    have CI := Lib.hid (In_any pn 0 ((s.rest.length : Int) - 1) W5)
    rw [hn] at CI
    clear hn
    go_wp2_with fail
    refine CI.out.mono ?_; rintro e w1 ⟨rfl, rfl⟩
    clear x1 CI
    have y0 : W5.cell? ⟨X, 0, none⟩ = some _ := hY5.cell (i := 0) rfl
    have y1 : W5.cell? ⟨X, 1, none⟩ = some _ := hY5.cell (i := 1) rfl
    have y2 : W5.cell? ⟨X, 2, none⟩ = some _ := hY5.cell (i := 2) rfl
    have y3 : W5.cell? ⟨X, 3, none⟩ = some _ := hY5.cell (i := 3) rfl
    have y4 : W5.cell? ⟨X, 4, none⟩ = some _ := hY5.cell (i := 4) rfl
    have y5 : W5.cell? ⟨X, 5, none⟩ = some _ := hY5.cell (i := 5) rfl
    have y6 : W5.cell? ⟨X, 6, none⟩ = some _ := hY5.cell (i := 6) rfl
    go_wp2_with fail
    refine (shows_any shZ shZP shZP W5 (shM_zero _) (shM_zero _)).mono ?_; rintro e W6 ⟨rfl, hbs⟩
    go_wp2_with fail
    refine (wakes_any _).mono ?_; rintro e wz ⟨rfl, hbz⟩
    go_wp2
    go_ret
    exact ⟨rfl, ext_trans (ext_trans hbw5 hbs) hbz⟩
  have hbt := btw_iff.1 hn
  obtain ⟨pk, rfl⟩ : ∃ pk : Nat, pn = pk := ⟨pn.toNat, by omega⟩
  rw [Int.toNat_natCast] at hR
  have hpk : pk < s.rest.length := by omega
  have Hok := Lib.hid (Sh.ok_of hok)
  clear hbt
  rcases hR with ⟨i, hex, rfl⟩ | ⟨hex, hk0, rfl⟩ | ⟨hex, hkn, q, vk, rfl, hq, hk⟩
  · clear hres
    go_upto_region 4 with fail
    have hY : Blk (W3.alloc (.cells #[.slice none 0 0, .slice none 0 0, .slice none 0 0, .slice none 0 0, .int .i64 0, .int .i64 0, .slice none 0 0] 35)) W3.heap.size 35 zerC := Blk.new W3 35 zerC
    have hAl := ext_alloc W3 (.cells #[.slice none 0 0, .slice none 0 0, .slice none 0 0, .slice none 0 0, .int .i64 0, .int .i64 0, .slice none 0 0] 35)
    have hm4 := hm3.ext hAl
    have hS4 := hS3.ext hAl
    have hbw4 := ext_trans hbw3 hAl
    clear hm3 hS3 hbw3 hAl
    generalize W3.heap.size = X at *
    generalize W3.alloc (.cells #[.slice none 0 0, .slice none 0 0, .slice none 0 0, .slice none 0 0, .int .i64 0, .int .i64 0, .slice none 0 0] 35) = W4 at *
    have x0 : W4.cell? ⟨w.heap.size, 0, none⟩ = _ := hS4.cell (i := 0) rfl
    have x1 : W4.cell? ⟨w.heap.size, 1, none⟩ = _ := hS4.cell (i := 1) rfl
    have x2 : W4.cell? ⟨w.heap.size, 2, none⟩ = _ := hS4.cell (i := 2) rfl
    have x3 : W4.cell? ⟨w.heap.size, 3, none⟩ = _ := hS4.cell (i := 3) rfl
    have x4 : W4.cell? ⟨w.heap.size, 4, none⟩ = _ := hS4.cell (i := 4) rfl
    have x5 : W4.cell? ⟨w.heap.size, 5, none⟩ = _ := hS4.cell (i := 5) rfl
    have x6 : W4.cell? ⟨w.heap.size, 6, none⟩ = _ := hS4.cell (i := 6) rfl
    have CR := Lib.hid (Right_any s p W4 hm4)
    rw [hok] at CR
    go_wp2_with fail
    refine CR.out.mono ?_; rintro e W5 ⟨rfl, hb5⟩
    clear x0 x1 x2 x3 x4 x5 x6
    clear CR
    have hb5' := hb5
    have hm5 := hm4.ext hb5
    have hS5 := hS4.ext hb5
    have hY5 := hY.ext hb5
    have hbw5 := ext_trans hbw4 hb5
    clear hY hS4 hm4 hbw4 hb5 hok
    have x1 : W5.cell? ⟨w.heap.size, 1, none⟩ = _ := hS5.cell (i := 1) rfl
    have CI := Lib.hid (In_any (pk : Int) 0 ((s.rest.length : Int) - 1) W5)
    rw [hn] at CI
    clear hn
    go_wp2_with fail
    refine CI.out.mono ?_; rintro e w1 ⟨rfl, rfl⟩
    clear x1 CI
    have x0 : W5.cell? ⟨w.heap.size, 0, none⟩ = _ := hS5.cell (i := 0) rfl
    have x1 : W5.cell? ⟨w.heap.size, 1, none⟩ = _ := hS5.cell (i := 1) rfl
    have x2 : W5.cell? ⟨w.heap.size, 2, none⟩ = _ := hS5.cell (i := 2) rfl
    have x3 : W5.cell? ⟨w.heap.size, 3, none⟩ = _ := hS5.cell (i := 3) rfl
    have x4 : W5.cell? ⟨w.heap.size, 4, none⟩ = _ := hS5.cell (i := 4) rfl
    have x5 : W5.cell? ⟨w.heap.size, 5, none⟩ = _ := hS5.cell (i := 5) rfl
    have x6 : W5.cell? ⟨w.heap.size, 6, none⟩ = _ := hS5.cell (i := 6) rfl
    go_wp2_with fail
    refine (RWithout_any s p pk W5 hm5 Hok.out hpk).mono ?_; rintro e W6 ⟨hW, hb6⟩
    clear x0 x1 x2 x3 x4 x5 x6
    unfold RwoR at hW
    have hY6 := hY5.ext hb6
    have hbw6 := ext_trans hbw5 hb6
    clear hY5 hS5 hm5 hbw5
    rcases hW with ⟨i2, hex2, rfl⟩ | ⟨hex2, -⟩
    rotate_left
    · rw [hex] at hex2; cases hex2
    rw [hex] at hex2
    obtain rfl := Option.some.inj hex2
    have hi0 : (i : Int) ≥ 0 := by omega
    clear hex hex2 hb6 hb5'
    go_upto_region 12 with fail
    have hAl := ext_alloc W6 (.cells #[.slice none 0 0, .slice none 0 0, .slice none 0 0, .slice none 0 0, .int .i64 0, .int .i64 0, .slice none 0 0] 26)
    have hY7 := hY6.ext hAl
    have hbw7 := ext_trans hbw6 hAl
    clear hY6 hbw6 hAl
    generalize W6.alloc (.cells #[.slice none 0 0, .slice none 0 0, .slice none 0 0, .slice none 0 0, .int .i64 0, .int .i64 0, .slice none 0 0] 26) = W7 at *
    unfold zerC at hY7
    have y0 : W7.cell? ⟨X, 0, none⟩ = some _ := hY7.cell (i := 0) rfl
    have y1 : W7.cell? ⟨X, 1, none⟩ = some _ := hY7.cell (i := 1) rfl
    have y2 : W7.cell? ⟨X, 2, none⟩ = some _ := hY7.cell (i := 2) rfl
    have y3 : W7.cell? ⟨X, 3, none⟩ = some _ := hY7.cell (i := 3) rfl
    have y4 : W7.cell? ⟨X, 4, none⟩ = some _ := hY7.cell (i := 4) rfl
    have y5 : W7.cell? ⟨X, 5, none⟩ = some _ := hY7.cell (i := 5) rfl
    have y6 : W7.cell? ⟨X, 6, none⟩ = some _ := hY7.cell (i := 6) rfl
    go_wp2_with fail
    refine (shows_any shZ shZP shZP W7 (shM_zero _) (shM_zero _)).mono ?_; rintro e W8 ⟨rfl, hbs⟩
    go_wp2_with fail
    refine (wakes_any _).mono ?_; rintro e wz ⟨rfl, hbz⟩
    go_wp2
    go_ret
    exact ⟨rfl, ext_trans (ext_trans hbw7 hbs) hbz⟩
  · clear hres
    go_upto_region 4 with fail
    have hY : Blk (W3.alloc (.cells #[.slice none 0 0, .slice none 0 0, .slice none 0 0, .slice none 0 0, .int .i64 0, .int .i64 0, .slice none 0 0] 35)) W3.heap.size 35 zerC := Blk.new W3 35 zerC
    have hAl := ext_alloc W3 (.cells #[.slice none 0 0, .slice none 0 0, .slice none 0 0, .slice none 0 0, .int .i64 0, .int .i64 0, .slice none 0 0] 35)
    have hm4 := hm3.ext hAl
    have hS4 := hS3.ext hAl
    have hbw4 := ext_trans hbw3 hAl
    clear hm3 hS3 hbw3 hAl
    generalize W3.heap.size = X at *
    generalize W3.alloc (.cells #[.slice none 0 0, .slice none 0 0, .slice none 0 0, .slice none 0 0, .int .i64 0, .int .i64 0, .slice none 0 0] 35) = W4 at *
    have x0 : W4.cell? ⟨w.heap.size, 0, none⟩ = _ := hS4.cell (i := 0) rfl
    have x1 : W4.cell? ⟨w.heap.size, 1, none⟩ = _ := hS4.cell (i := 1) rfl
    have x2 : W4.cell? ⟨w.heap.size, 2, none⟩ = _ := hS4.cell (i := 2) rfl
    have x3 : W4.cell? ⟨w.heap.size, 3, none⟩ = _ := hS4.cell (i := 3) rfl
    have x4 : W4.cell? ⟨w.heap.size, 4, none⟩ = _ := hS4.cell (i := 4) rfl
    have x5 : W4.cell? ⟨w.heap.size, 5, none⟩ = _ := hS4.cell (i := 5) rfl
    have x6 : W4.cell? ⟨w.heap.size, 6, none⟩ = _ := hS4.cell (i := 6) rfl
    have CR := Lib.hid (Right_any s p W4 hm4)
    rw [hok] at CR
    go_wp2_with fail
    refine CR.out.mono ?_; rintro e W5 ⟨rfl, hb5⟩
    clear x0 x1 x2 x3 x4 x5 x6
    clear CR
    have hb5' := hb5
    have hm5 := hm4.ext hb5
    have hS5 := hS4.ext hb5
    have hY5 := hY.ext hb5
    have hbw5 := ext_trans hbw4 hb5
    clear hY hS4 hm4 hbw4 hb5 hok
    have x1 : W5.cell? ⟨w.heap.size, 1, none⟩ = _ := hS5.cell (i := 1) rfl
    have CI := Lib.hid (In_any (pk : Int) 0 ((s.rest.length : Int) - 1) W5)
    rw [hn] at CI
    clear hn
    go_wp2_with fail
    refine CI.out.mono ?_; rintro e w1 ⟨rfl, rfl⟩
    clear x1 CI
    have x0 : W5.cell? ⟨w.heap.size, 0, none⟩ = _ := hS5.cell (i := 0) rfl
    have x1 : W5.cell? ⟨w.heap.size, 1, none⟩ = _ := hS5.cell (i := 1) rfl
    have x2 : W5.cell? ⟨w.heap.size, 2, none⟩ = _ := hS5.cell (i := 2) rfl
    have x3 : W5.cell? ⟨w.heap.size, 3, none⟩ = _ := hS5.cell (i := 3) rfl
    have x4 : W5.cell? ⟨w.heap.size, 4, none⟩ = _ := hS5.cell (i := 4) rfl
    have x5 : W5.cell? ⟨w.heap.size, 5, none⟩ = _ := hS5.cell (i := 5) rfl
    have x6 : W5.cell? ⟨w.heap.size, 6, none⟩ = _ := hS5.cell (i := 6) rfl
    go_wp2_with fail
    refine (RWithout_any s p pk W5 hm5 Hok.out hpk).mono ?_; rintro e W6 ⟨hW, hb6⟩
    clear x0 x1 x2 x3 x4 x5 x6
    unfold RwoR at hW
    have hY6 := hY5.ext hb6
    have hbw6 := ext_trans hbw5 hb6
    clear hY5 hS5 hm5 hbw5
    rcases hW with ⟨i2, hex2, rfl⟩ | ⟨-, q2, vk2, rfl, hq2, hk2⟩
    · rw [hex] at hex2; cases hex2
    rw [hk0] at hk2
    obtain ⟨A2, c2, rfl, -, -, -⟩ := hk2.cells encI_len
    clear hex hk2 hk0 hb6 hb5' hq2
    unfold shV
    go_upto_region 12 with fail
    have hAl := ext_alloc W6 (.cells #[.slice q2.A (s.lessW pk).acts.length q2.cA, .slice q2.R (s.lessW pk).rest.length q2.cR, .slice q2.I (s.lessW pk).ins.length q2.cI, .slice q2.O (s.lessW pk).outs.length q2.cO, .int .i64 (s.lessW pk).cover, .int .i64 (s.lessW pk).dull, .slice q2.B (s.lessW pk).before.length q2.cB] 26)
    have hY7 := hY6.ext hAl
    have hbw7 := ext_trans hbw6 hAl
    clear hY6 hbw6 hAl
    generalize W6.alloc (.cells #[.slice q2.A (s.lessW pk).acts.length q2.cA, .slice q2.R (s.lessW pk).rest.length q2.cR, .slice q2.I (s.lessW pk).ins.length q2.cI, .slice q2.O (s.lessW pk).outs.length q2.cO, .int .i64 (s.lessW pk).cover, .int .i64 (s.lessW pk).dull, .slice q2.B (s.lessW pk).before.length q2.cB] 26) = W7 at *
    unfold zerC at hY7
    have y0 : W7.cell? ⟨X, 0, none⟩ = some _ := hY7.cell (i := 0) rfl
    have y1 : W7.cell? ⟨X, 1, none⟩ = some _ := hY7.cell (i := 1) rfl
    have y2 : W7.cell? ⟨X, 2, none⟩ = some _ := hY7.cell (i := 2) rfl
    have y3 : W7.cell? ⟨X, 3, none⟩ = some _ := hY7.cell (i := 3) rfl
    have y4 : W7.cell? ⟨X, 4, none⟩ = some _ := hY7.cell (i := 4) rfl
    have y5 : W7.cell? ⟨X, 5, none⟩ = some _ := hY7.cell (i := 5) rfl
    have y6 : W7.cell? ⟨X, 6, none⟩ = some _ := hY7.cell (i := 6) rfl
    go_wp2_with fail
    refine (shows_any shZ shZP shZP W7 (shM_zero _) (shM_zero _)).mono ?_; rintro e W8 ⟨rfl, hbs⟩
    go_wp2_with fail
    refine (wakes_any _).mono ?_; rintro e wz ⟨rfl, hbz⟩
    go_wp2
    go_ret
    exact ⟨rfl, ext_trans (ext_trans hbw7 hbs) hbz⟩
  · clear hres
    have hq4 := hq.m
    unfold shV
    generalize hsl : s.lessW pk = sl at *
    generalize hkt : s.keptTo pk s.acts.length = kt at *
    have Hsl := Lib.hid hsl
    have Hkt := Lib.hid hkt
    have hkl := Sh.keptTo_le (s := s) (p := pk) s.acts.length
    rw [hkt] at hkl
    have hn8 := Hok.out.n8
    clear hq hsl hkt
    obtain ⟨A1, c1, rfl, -, -, hk1⟩ := hk.cells encI_len
    rw [toI_len]
    clear hk
    go_upto_region 4 with fail
    have hY : Blk (W3.alloc (.cells #[.slice q.A sl.acts.length q.cA, .slice q.R sl.rest.length q.cR, .slice q.I sl.ins.length q.cI, .slice q.O sl.outs.length q.cO, .int .i64 sl.cover, .int .i64 sl.dull, .slice q.B sl.before.length q.cB] 35)) W3.heap.size 35 (shC sl q) := Blk.new W3 35 (shC sl q)
    have hAl := ext_alloc W3 (.cells #[.slice q.A sl.acts.length q.cA, .slice q.R sl.rest.length q.cR, .slice q.I sl.ins.length q.cI, .slice q.O sl.outs.length q.cO, .int .i64 sl.cover, .int .i64 sl.dull, .slice q.B sl.before.length q.cB] 35)
    have hm4 := hm3.ext hAl
    have hS4 := hS3.ext hAl
    have hbw4 := ext_trans hbw3 hAl
    have hq4 := hq4.ext hAl
    have hk4 := hk1.ext hAl
    clear hm3 hS3 hbw3 hAl
    generalize W3.heap.size = X at *
    generalize W3.alloc (.cells #[.slice q.A sl.acts.length q.cA, .slice q.R sl.rest.length q.cR, .slice q.I sl.ins.length q.cI, .slice q.O sl.outs.length q.cO, .int .i64 sl.cover, .int .i64 sl.dull, .slice q.B sl.before.length q.cB] 35) = W4 at *
    have x0 : W4.cell? ⟨w.heap.size, 0, none⟩ = _ := hS4.cell (i := 0) rfl
    have x1 : W4.cell? ⟨w.heap.size, 1, none⟩ = _ := hS4.cell (i := 1) rfl
    have x2 : W4.cell? ⟨w.heap.size, 2, none⟩ = _ := hS4.cell (i := 2) rfl
    have x3 : W4.cell? ⟨w.heap.size, 3, none⟩ = _ := hS4.cell (i := 3) rfl
    have x4 : W4.cell? ⟨w.heap.size, 4, none⟩ = _ := hS4.cell (i := 4) rfl
    have x5 : W4.cell? ⟨w.heap.size, 5, none⟩ = _ := hS4.cell (i := 5) rfl
    have x6 : W4.cell? ⟨w.heap.size, 6, none⟩ = _ := hS4.cell (i := 6) rfl
    have CR := Lib.hid (Right_any s p W4 hm4)
    rw [hok] at CR
    go_wp2_with fail
    refine CR.out.mono ?_; rintro e W5 ⟨rfl, hb5⟩
    clear x0 x1 x2 x3 x4 x5 x6
    clear CR
    have hb5' := hb5
    have hm5 := hm4.ext hb5
    have hS5 := hS4.ext hb5
    have hY5 := hY.ext hb5
    have hbw5 := ext_trans hbw4 hb5
    clear hY hS4 hm4 hbw4 hb5 hok
    have x1 : W5.cell? ⟨w.heap.size, 1, none⟩ = _ := hS5.cell (i := 1) rfl
    have CI := Lib.hid (In_any (pk : Int) 0 ((s.rest.length : Int) - 1) W5)
    rw [hn] at CI
    clear hn
    go_wp2_with fail
    refine CI.out.mono ?_; rintro e w1 ⟨rfl, rfl⟩
    clear x1 CI
    have x0 : W5.cell? ⟨w.heap.size, 0, none⟩ = _ := hS5.cell (i := 0) rfl
    have x1 : W5.cell? ⟨w.heap.size, 1, none⟩ = _ := hS5.cell (i := 1) rfl
    have x2 : W5.cell? ⟨w.heap.size, 2, none⟩ = _ := hS5.cell (i := 2) rfl
    have x3 : W5.cell? ⟨w.heap.size, 3, none⟩ = _ := hS5.cell (i := 3) rfl
    have x4 : W5.cell? ⟨w.heap.size, 4, none⟩ = _ := hS5.cell (i := 4) rfl
    have x5 : W5.cell? ⟨w.heap.size, 5, none⟩ = _ := hS5.cell (i := 5) rfl
    have x6 : W5.cell? ⟨w.heap.size, 6, none⟩ = _ := hS5.cell (i := 6) rfl
    go_wp2_with fail
    refine (RWithout_any s p pk W5 hm5 Hok.out hpk).mono ?_; rintro e W6 ⟨hW, hb6⟩
    clear x0 x1 x2 x3 x4 x5 x6
    unfold RwoR at hW
    have hY6 := hY5.ext hb6
    have hbw6 := ext_trans hbw5 hb6
    clear hY5 hS5 hm5 hbw5
    rcases hW with ⟨i2, hex2, rfl⟩ | ⟨-, q2, vk2, rfl, hq2, hk2⟩
    · rw [hex] at hex2; cases hex2
    rw [Hsl.out] at hq2
    rw [Hkt.out] at hk2
    rw [Hsl.out]
    obtain ⟨A2, c2, rfl, -, -, hk2'⟩ := hk2.cells encI_len
    rw [toI_len]
    have hq6 := (hq4.ext hb5').ext hb6
    have hk6 := (hk4.ext hb5').ext hb6
    have hkpos : kt.length ≠ 0 := fun e => hkn (List.length_eq_zero_iff.1 e)
    have hkpos' : ¬ (kt.length : Int) = 0 := by omega
    clear hex hk2 hk4 hk1 hq4 hb6 hb5' hkn
    unfold shV
    unfold shC at hY6
    go_upto_region 12 with fail
    have hZ : Blk (W6.alloc (.cells #[.slice q2.A sl.acts.length q2.cA, .slice q2.R sl.rest.length q2.cR, .slice q2.I sl.ins.length q2.cI, .slice q2.O sl.outs.length q2.cO, .int .i64 sl.cover, .int .i64 sl.dull, .slice q2.B sl.before.length q2.cB] 26)) W6.heap.size 26 (shC sl q2) := Blk.new W6 26 (shC sl q2)
    have hAl := ext_alloc W6 (.cells #[.slice q2.A sl.acts.length q2.cA, .slice q2.R sl.rest.length q2.cR, .slice q2.I sl.ins.length q2.cI, .slice q2.O sl.outs.length q2.cO, .int .i64 sl.cover, .int .i64 sl.dull, .slice q2.B sl.before.length q2.cB] 26)
    have hY7 := hY6.ext hAl
    have hbw7 := ext_trans hbw6 hAl
    have hq7 := hq6.ext hAl
    have hq27 := hq2.ext hAl
    have hk7 := hk6.ext hAl
    have hk27 := hk2'.ext hAl
    unfold shC at hZ
    clear hY6 hbw6 hAl hq6 hq2 hk6 hk2'
    generalize W6.heap.size = Z at *
    generalize W6.alloc (.cells #[.slice q2.A sl.acts.length q2.cA, .slice q2.R sl.rest.length q2.cR, .slice q2.I sl.ins.length q2.cI, .slice q2.O sl.outs.length q2.cO, .int .i64 sl.cover, .int .i64 sl.dull, .slice q2.B sl.before.length q2.cB] 26) = W7 at *
    have y0 : W7.cell? ⟨X, 0, none⟩ = some _ := hY7.cell (i := 0) rfl
    have y1 : W7.cell? ⟨X, 1, none⟩ = some _ := hY7.cell (i := 1) rfl
    have y2 : W7.cell? ⟨X, 2, none⟩ = some _ := hY7.cell (i := 2) rfl
    have y3 : W7.cell? ⟨X, 3, none⟩ = some _ := hY7.cell (i := 3) rfl
    have y4 : W7.cell? ⟨X, 4, none⟩ = some _ := hY7.cell (i := 4) rfl
    have y5 : W7.cell? ⟨X, 5, none⟩ = some _ := hY7.cell (i := 5) rfl
    have y6 : W7.cell? ⟨X, 6, none⟩ = some _ := hY7.cell (i := 6) rfl
    have z0 : W7.cell? ⟨Z, 0, none⟩ = some _ := hZ.cell (i := 0) rfl
    have z1 : W7.cell? ⟨Z, 1, none⟩ = some _ := hZ.cell (i := 1) rfl
    have z2 : W7.cell? ⟨Z, 2, none⟩ = some _ := hZ.cell (i := 2) rfl
    have z3 : W7.cell? ⟨Z, 3, none⟩ = some _ := hZ.cell (i := 3) rfl
    have z4 : W7.cell? ⟨Z, 4, none⟩ = some _ := hZ.cell (i := 4) rfl
    have z5 : W7.cell? ⟨Z, 5, none⟩ = some _ := hZ.cell (i := 5) rfl
    have z6 : W7.cell? ⟨Z, 6, none⟩ = some _ := hZ.cell (i := 6) rfl
    go_wp2_with fail
    refine (shows_any sl q q2 W7 hq7 hq27).mono ?_; rintro e W8 ⟨rfl, hb8⟩
    clear y0 y1 y2 y3 y4 y5 y6
    clear z0 z1 z2 z3 z4 z5 z6
    have CS := Lib.hid (ints_same (c := c1) (d := c2) (l := toI kt) (W := W8) (by rw [toI_len]; omega) (hk7.ext hb8) (hk27.ext hb8))
    rw [toI_len] at CS
    go_wp2_with fail
    refine CS.out.mono ?_; rintro e W9 ⟨rfl, hb9⟩
    go_wp2_with fail
    refine (wakes_any _).mono ?_; rintro e wz ⟨rfl, hbz⟩
    go_wp2
    go_ret
    exact ⟨rfl, ext_trans (ext_trans hbw7 (ext_trans hb8 hb9)) hbz⟩
end Go.Proofs.Ytcnidhcdkbfpcaa

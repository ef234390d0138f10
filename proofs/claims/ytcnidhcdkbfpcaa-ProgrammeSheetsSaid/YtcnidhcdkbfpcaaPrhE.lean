/- Walk: wakes(). -/
import Derived.Test.YtcnidhcdkbfpcaaPrhD
namespace Go.Proofs.Ytcnidhcdkbfpcaa
open Go.RowKit Go.Bs Go.Pg Go.Pl Go.Sort
theorem ev_ok : evS.okB = true := by decide +kernel
theorem ev_solve : evS.solve = some [0, 1, 2] := by decide +kernel
theorem ev_least : evS.least = 24 := by decide +kernel
theorem ev_chg : chgE evS 1 2 = 0 ∧ evS.chM 1 2 = 7 ∧ evS.chC 1 2 = 17 := by decide +kernel
theorem ev_ask : askE evS [0, 2, 1] = 0 := by decide +kernel
theorem ev_fault : evS.fault [0, 2, 1] = (1, 2) := by decide +kernel
theorem ev_right : rightE evS [0, 1, 2] = 0 := by decide +kernel
theorem ev_sheet : evS.sheet [0, 1, 2] = ([0, 17, 32], 44) := by decide +kernel
theorem ev_chgR {e : Ending} (h : ChgR evS 1 2 e) : e = .returned (.tuple #[.int .i64 7, .int .i64 17, .int .i64 0]) := by
  obtain ⟨x, y, z, rfl, h1, -, h3⟩ := h
  rw [ev_chg.1] at h1
  obtain ⟨h4, h5⟩ := h3 h1
  subst h1
  rw [h4, h5]
  show Ending.returned (.tuple #[.int .i64 (evS.chM 1 2), .int .i64 (evS.chC 1 2), _]) = _
  rw [ev_chg.2.1, ev_chg.2.2]
theorem ev_fltR {e : Ending} (h : FltR evS [0, 2, 1] e) : e = .returned (.tuple #[.int .i64 1, .int .u8 2, .int .i64 0]) := by
  obtain ⟨x, y, z, rfl, -, -, h3⟩ := h
  have hf : evS.fault ([0, 2, 1].map Int.toNat) = (1, 2) := ev_fault
  rw [hf] at h3
  obtain ⟨rfl, rfl, rfl⟩ := h3 ev_ask (by decide)
  rfl
theorem ev_bestR {w W : World} {v : Value} (h : BestR w evS v W) : ∃ sl tv, v = .tuple #[sl, .int .i64 24, tv, .int .i64 0] ∧ OwnL W w.heap.size 3 1 encI sl [0, 1, 2] ∧ Below w.heap.size w W := by
  obtain ⟨hb, ⟨h1, -⟩ | ⟨-, h1, -⟩ | ⟨-, l, sl, tv, hi, h1, h2, -, h4⟩⟩ := h
  · rw [ev_ok] at h1; cases h1
  · rw [ev_solve] at h1; cases h1
  · rw [ev_solve] at h1; cases h1
    rw [ev_least] at h4
    exact ⟨sl, tv, h4, h2, hb⟩
theorem ev_shtR {w W : World} {e : Ending} (h : ShtR w evS [0, 1, 2] e W) : ∃ v, e = .returned (.tuple #[v, .int .i64 44, .int .i64 0]) ∧ FreshL w W 1 encI v [0, 17, 32] := by
  obtain ⟨v, x, z, rfl, h1, -, h3⟩ := h
  rw [ev_right] at h1
  obtain ⟨h4, h5⟩ := h3 h1
  have hs : evS.sheet ([0, 1, 2].map Int.toNat) = ([0, 17, 32], 44) := ev_sheet
  rw [hs] at h4 h5
  subst h1
  rw [h5]
  exact ⟨v, rfl, h4⟩
set_option maxRecDepth 100000 in
set_option maxHeartbeats 2000000 in
theorem wakes_any (w : World) : Calls Try.prog 15 #[] w fun e w' => e = .returned (.bool true) ∧ Below w.heap.size w w' := by
  go_enter Try.func15, Try.ntmps15
  go_wp2_with fail
  refine (evening_any w).mono ?_; rintro e W1 ⟨⟨p1, rfl, hp1⟩, hb1⟩
  go_wp2_with fail
  refine (Change_any evS p1 1 2 W1 hp1).mono ?_; rintro e W2 ⟨h2, hb2⟩
  rw [ev_chgR h2]
  have hw2 := hb1.trans (hb2.mono hb1.size)
  clear h2 hp1 hb1 hb2
  go_wp2_with fail
  refine (evening_any W2).mono ?_; rintro e W3 ⟨⟨p3, rfl, hp3⟩, hb3⟩
  have hw3 := hw2.trans (hb3.mono hw2.size)
  have hn3 := Blk.new W3 3 [.int .i64 0, .int .i64 2, .int .i64 1]
  have hx3 := ext_alloc W3 (.cells #[.int .i64 0, .int .i64 2, .int .i64 1] 3)
  have hp4 := hp3.ext hx3
  have hw4 := hw3.trans (hx3.mono hw3.size)
  clear hw2 hb3 hp3 hx3 hw3
  go_wp2_with fail
  change Blk (W3.alloc (.cells #[.int .i64 0, .int .i64 2, .int .i64 1] 3)) _ _ _ at hn3
  generalize W3.alloc (.cells #[.int .i64 0, .int .i64 2, .int .i64 1] 3) = W4 at *
  refine (Fault_any evS p3 _ 3 3 [0, 2, 1] W4 hp4 rfl (by omega) (cells_of encI_len hn3 rfl)).mono ?_; rintro e W5 ⟨h5, hb5⟩
  rw [ev_fltR h5]
  have hw5 := hw4.trans (hb5.mono hw4.size)
  clear h5 hb5 hp4 hw4 hn3
  go_wp2_with fail
  refine (evening_any W5).mono ?_; rintro e W6 ⟨⟨p6, rfl, hp6⟩, hb6⟩
  have hw6 := hw5.trans (hb6.mono hw5.size)
  clear hw5 hb6
  go_wp2_with fail
  refine (Best_any evS p6 W6 hp6).mono ?_; rintro e W7 ⟨v7, rfl, h7⟩
  obtain ⟨sl, tv, rfl, hsl, hb7⟩ := ev_bestR h7
  obtain ⟨A7, c7, rfl, -, -, hcl⟩ := hsl.cells encI_len
  have hw7 := hw6.trans (hb7.mono hw6.size)
  clear h7 hsl hb7 hw6 hp6
  go_wp2_with fail
  refine (evening_any W7).mono ?_; rintro e W8 ⟨⟨p8, rfl, hp8⟩, hb8⟩
  have hw8 := hw7.trans (hb8.mono hw7.size)
  have hcl8 := hcl.ext hb8
  have hn8 := Blk.new W8 3 [.int .i64 0, .int .i64 1, .int .i64 2]
  have hx8 := ext_alloc W8 (.cells #[.int .i64 0, .int .i64 1, .int .i64 2] 3)
  have hp9 := hp8.ext hx8
  have hw9 := hw8.trans (hx8.mono hw8.size)
  have hcl9 := hcl8.ext hx8
  clear hw7 hb8 hp8 hx8 hw8 hcl8 hcl
  go_wp2_with fail
  change Blk (W8.alloc (.cells #[.int .i64 0, .int .i64 1, .int .i64 2] 3)) _ _ _ at hn8
  generalize W8.alloc (.cells #[.int .i64 0, .int .i64 1, .int .i64 2] 3) = W9 at *
  refine (Sheet_any evS p8 _ 3 3 [0, 1, 2] W9 hp9 rfl (by omega) (cells_of encI_len hn8 rfl)).mono ?_; rintro e W10 ⟨h10, hb10⟩
  obtain ⟨v10, rfl, hf10⟩ := ev_shtR h10
  obtain ⟨A10, c10, rfl, -, -, hcf, -⟩ := hf10
  have hcl10 := hcl9.ext hb10
  have hw10 := hw9.trans (hb10.mono hw9.size)
  clear h10 hb10 hp9 hw9 hn8 hcl9
  go_wp2_with fail
  have hn11 := Blk.new W10 3 [.int .i64 0, .int .i64 1, .int .i64 2]
  have hx11 := ext_alloc W10 (.cells #[.int .i64 0, .int .i64 1, .int .i64 2] 3)
  have hcl11 := hcl10.ext hx11
  have hcf11 := hcf.ext hx11
  have hw11 := hw10.trans (hx11.mono hw10.size)
  clear hcl10 hcf hx11 hw10
  change Blk (W10.alloc (.cells #[.int .i64 0, .int .i64 1, .int .i64 2] 3)) _ _ _ at hn11
  generalize W10.alloc (.cells #[.int .i64 0, .int .i64 1, .int .i64 2] 3) = W11 at *
  refine (ints_any A7 _ 3 3 c7 3 [0, 1, 2] [0, 1, 2] W11 rfl rfl (by omega) (by omega) hcl11 (cells_of encI_len hn11 rfl)).mono ?_; rintro e W12 ⟨rfl, hb12⟩
  have hcf12 := hcf11.ext hb12
  have hw12 := hw11.trans (hb12.mono hw11.size)
  clear hcl11 hn11 hcf11 hb12 hw11
  go_wp2_with fail
  have hn13 := Blk.new W12 3 [.int .i64 0, .int .i64 17, .int .i64 32]
  have hx13 := ext_alloc W12 (.cells #[.int .i64 0, .int .i64 17, .int .i64 32] 3)
  have hcf13 := hcf12.ext hx13
  have hw13 := hw12.trans (hx13.mono hw12.size)
  clear hcf12 hx13 hw12
  change Blk (W12.alloc (.cells #[.int .i64 0, .int .i64 17, .int .i64 32] 3)) _ _ _ at hn13
  generalize W12.alloc (.cells #[.int .i64 0, .int .i64 17, .int .i64 32] 3) = W13 at *
  refine (ints_any A10 _ 3 3 c10 3 [0, 17, 32] [0, 17, 32] W13 rfl rfl (by omega) (by omega) hcf13 (cells_of encI_len hn13 rfl)).mono ?_; rintro e W14 ⟨rfl, hb14⟩
  have hw14 := hw13.trans (hb14.mono hw13.size)
  clear hb14 hw13 hn13 hcf13
  go_wp2
  go_ret
  exact ⟨rfl, hw14⟩
end Go.Proofs.Ytcnidhcdkbfpcaa

/- Walk: wakes. -/
import Derived.Test.YtopfhinnamhoiaaWakeA
namespace Go.Proofs.Ytopfhinnamhoiaa
open Go.RowKit Go.Bs Go.Yd Go.Pl Go.Sort

set_option maxRecDepth 100000 in
set_option maxHeartbeats 4000000 in
theorem wakes_any (w : World) : Calls Try.prog 17 #[] w fun e w' => e = .returned (.bool true) ∧ Below w.heap.size w w' := by
  have hrv := Lib.hid rowV
  have hwv := Lib.hid wayV
  have hlv := Lib.hid lampsV
  have hev := Lib.hid wearyV
  go_enter Try.func17, Try.ntmps17
  go_wp2_with fail
  refine (row_any w).mono ?_; rintro e w1 ⟨A1, A2, A3, rfl, hY, hb1⟩
  go_wp2_with fail
  refine (Stand_any rowY A1 A2 A3 4 3 1 4 3 1 w1 rfl rfl rfl (by omega) (by omega) (by omega) (by omega) hY).mono ?_
  rintro e w2 ⟨v, rfl, hv, hb2⟩
  rw [hrv.out] at hv ⊢
  have hb3 := ext_trans hb1 hb2
  obtain ⟨Av, cv, rfl, hv1, hv2, hv3, -⟩ := hv
  clear hb1 hb2 hY
  go_wp2_with fail
  refine (weary_any 300 1200 (some ⟨w2.heap.size, 0, none⟩) 5 5 [200, 300, 250, 250, 300] _ rfl (by omega) (cells_new w2 3 1 encI encI_len [200, 300, 250, 250, 300])).mono ?_
  rintro e w3 ⟨rfl, hb4⟩
  have hb5 := ext_trans (ext_trans hb3 (ext_alloc w2 _)) hb4
  have hv4 := (hv3.ext (ext_alloc w2 _)).ext hb4
  rw [hev.out]
  clear hb3 hb4 hv3
  simp only [tupW]
  go_wp2_with fail
  refine (way_any w3).mono ?_; rintro e w4 ⟨A4, rfl, hR, hb6⟩
  go_wp2_with fail
  refine (Buy_any wayR A4 4 4 w4 rfl (by omega) (by omega) hR).mono ?_
  rintro e w5 ⟨v5, x5, rfl, hv5, hx5, hb7⟩
  rw [hwv.out.1] at hv5
  rw [hwv.out.2.1, hwv.out.2.2]
  obtain ⟨Ab, cb, rfl, hv6, hv7, hv8, -⟩ := hv5
  obtain ⟨Ax, cx, rfl, -⟩ := hx5
  have hb8 := ext_trans hb5 (ext_trans hb6 hb7)
  have hv9 := hv4.ext (ext_trans hb6 hb7)
  clear hb5 hb6 hb7 hv4 hR
  go_wp2_with fail
  refine (lamps_any w5).mono ?_; rintro e w6 ⟨A6, rfl, hG, hb9⟩
  go_wp2_with fail
  refine (Spare_any lampsG A6 3 3 2 w6 rfl (by omega) (by omega) hG).mono ?_
  rintro e w7 ⟨rfl, hb10⟩
  rw [hlv.out]
  have hb11 := ext_trans hb8 (ext_trans hb9 hb10)
  have hs := hv9.ext (ext_trans hb9 hb10)
  have hp := hv8.ext (ext_trans hb9 hb10)
  clear hb8 hb9 hb10 hv9 hv8 hG
  go_wp2_with fail
  refine (ints_any Av (some ⟨w7.heap.size, 0, none⟩) 3 3 cv 3 [0, 1, 3] [0, 1, 3] _ rfl rfl (by omega) (by omega) (hs.ext (ext_alloc w7 _)) (cells_new w7 3 1 encI encI_len [0, 1, 3])).mono ?_
  rintro e w8 ⟨rfl, hb12⟩
  rw [show decide ([0, 1, 3] = ([0, 1, 3] : List Int)) = true from rfl]
  have hb13 := ext_trans (ext_trans hb11 (ext_alloc w7 _)) hb12
  have hp2 := (hp.ext (ext_alloc w7 _)).ext hb12
  go_wp2_with fail
  refine (ints_any Ab (some ⟨w8.heap.size, 0, none⟩) 2 2 cb 2 [0, 1] [0, 1] _ rfl rfl (by omega) (by omega) (hp2.ext (ext_alloc w8 _)) (cells_new w8 3 1 encI encI_len [0, 1])).mono ?_
  rintro e w9 ⟨rfl, hb14⟩
  rw [show decide ([0, 1] = ([0, 1] : List Int)) = true from rfl]
  have hb15 := ext_trans (ext_trans hb13 (ext_alloc w8 _)) hb14
  go_wp2
  go_ret
  exact ⟨rfl, hb15⟩
end Go.Proofs.Ytopfhinnamhoiaa

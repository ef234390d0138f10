/- Walk: awake. (Printed by mk_awkb.py.) -/
import Derived.Test.YtbpmfaibcibleaaAwkA
import Derived.Test.YtbpmfaibcibleaaSeaG
import Derived.Test.YtbpmfaibcibleaaWaG
namespace Go.Wg
open Go.RowKit Go.Bs Go.Pl
theorem ev_pack : packRes ⟨[60, 50], 30, 1000, 800, 100, 1500, 10⟩ [⟨30, 20, 100, 5⟩, ⟨30, 25, 200, 2⟩, ⟨20, 30, 300, 7⟩, ⟨20, 10, 50, 2⟩] false = ([[0, 1], [2, 3]], 0) := by decide +kernel
theorem ev_cargo : cargoE [⟨30, 20, 100, 5⟩, ⟨30, 25, 200, 2⟩, ⟨20, 30, 300, 7⟩, ⟨20, 10, 50, 2⟩] 14 = 0 := by decide +kernel
theorem ev_climb : climbL [⟨30, 20, 100, 5⟩, ⟨30, 25, 200, 2⟩, ⟨20, 30, 300, 7⟩, ⟨20, 10, 50, 2⟩] = [0, 2] := by decide +kernel
theorem ev_right : rightB ⟨[60, 50], 30, 1000, 800, 100, 1500, 10⟩ [⟨30, 20, 100, 5⟩, ⟨30, 25, 200, 2⟩, ⟨20, 30, 300, 7⟩, ⟨20, 10, 50, 2⟩] [[0, 1], [2, 3]] = true := by
  refine right_iff.2 ⟨rfl, ?_, ?_, ?_, by decide +kernel⟩
  · rw [show upto [(⟨30, 20, 100, 5⟩ : Th), ⟨30, 25, 200, 2⟩, ⟨20, 30, 300, 7⟩, ⟨20, 10, 50, 2⟩].length = [([0, 1] : List Int), [2, 3]].flatten by decide +kernel]
  · intro l hl
    simp only [List.mem_cons, List.not_mem_nil, or_false] at hl
    rcases hl with rfl | rfl
    · refine ⟨?_, by decide⟩
      intro x hx
      simp only [List.mem_cons, List.not_mem_nil, or_false] at hx
      rcases hx with rfl | rfl <;> decide
    · refine ⟨?_, by decide⟩
      intro x hx
      simp only [List.mem_cons, List.not_mem_nil, or_false] at hx
      rcases hx with rfl | rfl <;> decide
  · intro i hi
    have : i = 0 ∨ i = 1 := by simp at hi; omega
    rcases this with rfl | rfl <;> decide +kernel
theorem ev_ax : axVal ⟨[60, 50], 30, 1000, 800, 100, 1500, 10⟩ [⟨30, 20, 100, 5⟩, ⟨30, 25, 200, 2⟩, ⟨20, 30, 300, 7⟩, ⟨20, 10, 50, 2⟩] [[0, 1], [2, 3]] = (750, 700, true, 0) := by
  unfold axVal
  rw [if_neg (by decide +kernel), ev_right]
  decide +kernel
def wRs (s : Nat) : List RwV := [⟨[0, 1], some ⟨s, 0, none⟩, 2⟩, ⟨[2, 3], some ⟨s + 1, 0, none⟩, 2⟩]
end Go.Wg
namespace Go.Proofs.Ytbpmfaibcibleaa
open Go.RowKit Go.Bs Go.Wg Go.Pl Go.Sort
theorem ev_trip : tripR 9 4 1 11 10 = (23, 0) := by decide +kernel
theorem wRs_mem {W : World} {s : Nat} (n1 : Blk W s 3 [.int .i64 0, .int .i64 1]) (n2 : Blk W (s + 1) 3 [.int .i64 2, .int .i64 3]) (n3 : Blk W (s + 1 + 1) 35 [.slice (some ⟨s, 0, none⟩) 2 2, .slice (some ⟨s + 1, 0, none⟩) 2 2]) : RwM W (some ⟨s + 1 + 1, 0, none⟩) (wRs s) := by
  refine ⟨cells_of rwv_len n3 rfl, ?_, ?_⟩
  · intro x hx
    simp only [wRs, List.mem_cons, List.not_mem_nil, or_false] at hx
    rcases hx with rfl | rfl
    · exact cells_of Go.Bs.encI_len n1 rfl
    · exact cells_of Go.Bs.encI_len n2 rfl
  · intro x hx
    simp only [wRs, List.mem_cons, List.not_mem_nil, or_false] at hx
    rcases hx with rfl | rfl <;> exact Nat.le_refl _
set_option maxRecDepth 100000 in
set_option maxHeartbeats 4000000 in
theorem awake_any (w : World) : Calls Try.prog 20 #[] w fun e w' => e = .returned (.bool true) ∧ Below w.heap.size w w' := by
  go_enter Try.func20, Try.ntmps20
  go_wp2_with fail
  refine (truck_any _).mono ?_; rintro e W1 ⟨⟨A, T, rfl, hl, ht⟩, hb⟩
  unfold LoV.val
  simp only [trL, List.length_cons, List.length_nil, Nat.zero_add, Nat.reduceAdd]
  have hB := Blk.new W1 44 [.slice A 2 2, .int .i64 30, .int .i64 1000, .int .i64 800, .int .i64 100, .int .i64 1500, .int .i64 10]
  have hx2 := ext_alloc W1 (.cells #[.slice A 2 2, .int .i64 30, .int .i64 1000, .int .i64 800, .int .i64 100, .int .i64 1500, .int .i64 10] 44)
  go_upto_region 2 with fail
  change Blk (W1.alloc (.cells #[.slice A 2 2, .int .i64 30, .int .i64 1000, .int .i64 800, .int .i64 100, .int .i64 1500, .int .i64 10] 44)) _ _ _ at hB
  generalize W1.alloc (.cells #[.slice A 2 2, .int .i64 30, .int .i64 1000, .int .i64 800, .int .i64 100, .int .i64 1500, .int .i64 10] 44) = W2 at *
  replace hl := hl.ext hx2
  replace ht := ht.ext hx2
  replace hb := ext_trans hb hx2
  clear hx2
  have q0 : W2.cell? ⟨W1.heap.size, 0, none⟩ = _ := hB.cell rfl
  have q1 : W2.cell? ⟨W1.heap.size, 1, none⟩ = _ := hB.cell rfl
  have q2 : W2.cell? ⟨W1.heap.size, 2, none⟩ = _ := hB.cell rfl
  have q3 : W2.cell? ⟨W1.heap.size, 3, none⟩ = _ := hB.cell rfl
  have q4 : W2.cell? ⟨W1.heap.size, 4, none⟩ = _ := hB.cell rfl
  have q5 : W2.cell? ⟨W1.heap.size, 5, none⟩ = _ := hB.cell rfl
  have q6 : W2.cell? ⟨W1.heap.size, 6, none⟩ = _ := hB.cell rfl
  have CP := Lib.hid (show Calls Try.prog 25 #[.agg #[.slice A 2 2, .int .i64 30, .int .i64 1000, .int .i64 800, .int .i64 100, .int .i64 1500, .int .i64 10], .slice T 4 4] W2 (PcR trL trT false W2) from Pack_any ⟨⟨trL, A, 2⟩, T, 4⟩ trT W2 (show 2 ≤ 9223372036854775807 by omega) (show 4 ≤ 9223372036854775807 by omega) hl ht)
  go_wp2_with fail
  refine CP.out.mono ?_
  rintro e W3 ⟨hx3, v, he, hv⟩
  rw [show packRes trL trT false = _ from ev_pack] at he hv
  subst he
  obtain ⟨A3, c3, rs, rfl, hrs, hM, -, -⟩ := hv
  have hn3 : rs.length = 2 := by rw [← rows_len, hrs]; rfl
  rw [hn3]
  have Hn3 := Lib.hid hn3
  clear hn3
  clear q0 q1 q2 q3 q4 q5 q6 CP
  replace hB := hB.ext hx3
  replace hl := hl.ext hx3
  replace ht := ht.ext hx3
  replace hb := ext_trans hb hx3
  clear hx3
  go_wp2_with fail
  refine (Climb_any trT T 4 4 W3 rfl (by omega) ht).mono ?_
  rintro e W4 ⟨hx4, v4, he, hv⟩
  rw [show cargoE trT 14 = 0 from ev_cargo] at he hv
  rw [if_pos rfl, show climbL trT = _ from ev_climb] at hv
  subst he
  obtain ⟨A4, c4, rfl, -, -, hc, -⟩ := hv
  simp only [List.length_cons, List.length_nil, Nat.zero_add, Nat.reduceAdd]
  replace hB := hB.ext hx4
  replace hl := hl.ext hx4
  replace ht := ht.ext hx4
  replace hM := hM.ext hx4
  replace hb := ext_trans hb hx4
  clear hx4
  have q0 : W4.cell? ⟨W1.heap.size, 0, none⟩ = _ := hB.cell rfl
  have q1 : W4.cell? ⟨W1.heap.size, 1, none⟩ = _ := hB.cell rfl
  have q2 : W4.cell? ⟨W1.heap.size, 2, none⟩ = _ := hB.cell rfl
  have q3 : W4.cell? ⟨W1.heap.size, 3, none⟩ = _ := hB.cell rfl
  have q4 : W4.cell? ⟨W1.heap.size, 4, none⟩ = _ := hB.cell rfl
  have q5 : W4.cell? ⟨W1.heap.size, 5, none⟩ = _ := hB.cell rfl
  have q6 : W4.cell? ⟨W1.heap.size, 6, none⟩ = _ := hB.cell rfl
  have n1 := ((Blk.new W4 3 [.int .i64 0, .int .i64 1]).alloc (.cells #[.int .i64 2, .int .i64 3] 3)).alloc (.cells #[.slice (some ⟨W4.heap.size, 0, none⟩) 2 2, .slice (some ⟨W4.heap.size + 1, 0, none⟩) 2 2] 35)
  have n2 := (Blk.new (W4.alloc (.cells #[.int .i64 0, .int .i64 1] 3)) 3 [.int .i64 2, .int .i64 3]).alloc (.cells #[.slice (some ⟨W4.heap.size, 0, none⟩) 2 2, .slice (some ⟨W4.heap.size + 1, 0, none⟩) 2 2] 35)
  have n3 := Blk.new ((W4.alloc (.cells #[.int .i64 0, .int .i64 1] 3)).alloc (.cells #[.int .i64 2, .int .i64 3] 3)) 35 [.slice (some ⟨W4.heap.size, 0, none⟩) 2 2, .slice (some ⟨W4.heap.size + 1, 0, none⟩) 2 2]
  have nb : Below W4.heap.size W4 (((W4.alloc (.cells #[.int .i64 0, .int .i64 1] 3)).alloc (.cells #[.int .i64 2, .int .i64 3] 3)).alloc (.cells #[.slice (some ⟨W4.heap.size, 0, none⟩) 2 2, .slice (some ⟨W4.heap.size + 1, 0, none⟩) 2 2] 35)) := (((Below.refl _ _).alloc (Nat.le_refl _) _).alloc (by simp) _).alloc (by simp; omega) _
  simp only [World.size_alloc] at n2 n3
  change Blk (((W4.alloc (.cells #[.int .i64 0, .int .i64 1] 3)).alloc (.cells #[.int .i64 2, .int .i64 3] 3)).alloc (.cells #[.slice (some ⟨W4.heap.size, 0, none⟩) 2 2, .slice (some ⟨W4.heap.size + 1, 0, none⟩) 2 2] 35)) _ _ _ at n1 n2 n3
  go_wp2_with fail
  generalize ((W4.alloc (.cells #[.int .i64 0, .int .i64 1] 3)).alloc (.cells #[.int .i64 2, .int .i64 3] 3)).alloc (.cells #[.slice (some ⟨W4.heap.size, 0, none⟩) 2 2, .slice (some ⟨W4.heap.size + 1, 0, none⟩) 2 2] 35) = W5 at *
  have hM4 : RwM W5 (some ⟨W4.heap.size + 1 + 1, 0, none⟩) (wRs W4.heap.size) := wRs_mem n1 n2 n3
  replace hB := hB.ext nb
  replace hl := hl.ext nb
  replace ht := ht.ext nb
  replace hM := hM.ext nb
  replace hc := hc.ext nb
  replace hb := ext_trans hb nb
  clear n1 n2 n3 nb

  have CA := Lib.hid (show Calls Try.prog 37 #[.agg #[.slice A 2 2, .int .i64 30, .int .i64 1000, .int .i64 800, .int .i64 100, .int .i64 1500, .int .i64 10], .slice T 4 4, .slice (some ⟨W4.heap.size + 1 + 1, 0, none⟩) 2 2] W5 _ from Axles_any ⟨⟨trL, A, 2⟩, T, 4⟩ trT (some ⟨W4.heap.size + 1 + 1, 0, none⟩) 2 2 (wRs W4.heap.size) W5 (show 2 ≤ 9223372036854775807 by omega) (show 4 ≤ 9223372036854775807 by omega) hl ht rfl (by omega) hM4 (show 4 ≤ 1000000 by omega))
  refine CA.out.mono ?_
  rintro e W6 ⟨he, hx6⟩
  rw [show axVal trL trT (rows (wRs W4.heap.size)) = _ from ev_ax] at he
  subst he
  clear CA hM4
  clear q0 q1 q2 q3 q4 q5 q6
  replace hM := hM.ext hx6
  replace hc := hc.ext hx6
  replace hb := ext_trans hb hx6
  clear hx6 hB hl ht
  dsimp only
  go_wp2_with fail
  refine (Trip_any 9 4 1 11 10 W6).mono ?_
  rintro e W7 ⟨he, hx7⟩
  rw [ev_trip] at he
  subst he
  replace hM := hM.ext hx7
  replace hc := hc.ext hx7
  replace hb := ext_trans hb hx7
  clear hx7
  dsimp only
  have n1 := ((Blk.new W7 3 [.int .i64 0, .int .i64 1]).alloc (.cells #[.int .i64 2, .int .i64 3] 3)).alloc (.cells #[.slice (some ⟨W7.heap.size, 0, none⟩) 2 2, .slice (some ⟨W7.heap.size + 1, 0, none⟩) 2 2] 35)
  have n2 := (Blk.new (W7.alloc (.cells #[.int .i64 0, .int .i64 1] 3)) 3 [.int .i64 2, .int .i64 3]).alloc (.cells #[.slice (some ⟨W7.heap.size, 0, none⟩) 2 2, .slice (some ⟨W7.heap.size + 1, 0, none⟩) 2 2] 35)
  have n3 := Blk.new ((W7.alloc (.cells #[.int .i64 0, .int .i64 1] 3)).alloc (.cells #[.int .i64 2, .int .i64 3] 3)) 35 [.slice (some ⟨W7.heap.size, 0, none⟩) 2 2, .slice (some ⟨W7.heap.size + 1, 0, none⟩) 2 2]
  have nb : Below W7.heap.size W7 (((W7.alloc (.cells #[.int .i64 0, .int .i64 1] 3)).alloc (.cells #[.int .i64 2, .int .i64 3] 3)).alloc (.cells #[.slice (some ⟨W7.heap.size, 0, none⟩) 2 2, .slice (some ⟨W7.heap.size + 1, 0, none⟩) 2 2] 35)) := (((Below.refl _ _).alloc (Nat.le_refl _) _).alloc (by simp) _).alloc (by simp; omega) _
  simp only [World.size_alloc] at n2 n3
  change Blk (((W7.alloc (.cells #[.int .i64 0, .int .i64 1] 3)).alloc (.cells #[.int .i64 2, .int .i64 3] 3)).alloc (.cells #[.slice (some ⟨W7.heap.size, 0, none⟩) 2 2, .slice (some ⟨W7.heap.size + 1, 0, none⟩) 2 2] 35)) _ _ _ at n1 n2 n3
  go_wp2_with fail
  generalize ((W7.alloc (.cells #[.int .i64 0, .int .i64 1] 3)).alloc (.cells #[.int .i64 2, .int .i64 3] 3)).alloc (.cells #[.slice (some ⟨W7.heap.size, 0, none⟩) 2 2, .slice (some ⟨W7.heap.size + 1, 0, none⟩) 2 2] 35) = W8 at *
  have hM6 : RwM W8 (some ⟨W7.heap.size + 1 + 1, 0, none⟩) (wRs W7.heap.size) := wRs_mem n1 n2 n3
  replace hM := hM.ext nb
  replace hc := hc.ext nb
  replace hb := ext_trans hb nb
  clear n1 n2 n3 nb

  have Hd := Lib.hid (show decide (rows rs = rows (wRs W7.heap.size)) = true from decide_eq_true (by rw [hrs]; rfl))
  have CS := Lib.hid (same_any A3 (some ⟨W7.heap.size + 1 + 1, 0, none⟩) 2 2 c3 2 rs (wRs W7.heap.size) W8 Hn3.out rfl (by omega) (by omega) hM hM6 (fun x hx => by
    have h : x.r ∈ rows rs := List.mem_map_of_mem hx
    rw [hrs] at h
    simp only [List.mem_cons, List.not_mem_nil, or_false] at h
    rcases h with h | h <;> (rw [h]; decide)) (fun x hx => by
    simp only [wRs, List.mem_cons, List.not_mem_nil, or_false] at hx
    rcases hx with rfl | rfl <;> exact (show 2 ≤ 1000000000 by omega)))
  rw [Hd.out] at CS
  refine CS.out.mono ?_
  rintro e W9 ⟨rfl, hx9⟩
  replace hc := hc.ext hx9
  replace hb := ext_trans hb hx9
  clear hx9 CS hM hM6 hrs
  have n1 := Blk.new W9 3 [.int .i64 0, .int .i64 2]
  have nb := ext_alloc W9 (.cells #[.int .i64 0, .int .i64 2] 3)
  go_wp2_with fail
  change Blk (W9.alloc (.cells #[.int .i64 0, .int .i64 2] 3)) _ _ _ at n1
  generalize W9.alloc (.cells #[.int .i64 0, .int .i64 2] 3) = W10 at *
  have CI := Lib.hid (ints_any A4 (some ⟨W9.heap.size, 0, none⟩) 2 2 c4 2 [0, 2] [0, 2] W10 rfl rfl (by omega) (by omega) (hc.ext nb) (cells_of Go.Bs.encI_len n1 rfl))
  refine CI.out.mono ?_
  rintro e W11 ⟨rfl, hx11⟩
  replace hb := ext_trans (ext_trans hb nb) hx11
  clear hx11 CI hc n1 nb
  go_wp2
  go_ret
  exact ⟨rfl, hb⟩
end Go.Proofs.Ytbpmfaibcibleaa

/- Walk: Road, RoadFault, Holds. (Printed by mk_lhpf.py.) -/
import Derived.Test.YtbpmfaibcibleaaLhpA
import Derived.Test.YtbpmfaibcibleaaWaG
namespace Go.Wg
def Br.okB (b : Br) : Bool := btw b.limit 0 300000 && btw b.clear 0 600
/-- the error of a road -/
def roadE (bs : List Br) : Int := if 30 < bs.length then 3 else if bs.all Br.okB then 0 else 1
end Go.Wg
namespace Go.Proofs.Ytbpmfaibcibleaa
open Go.RowKit Go.Bs Go.Wg Go.Pl Go.Sort
theorem info101 : (Try.prog.info? 101).map (fun i => (i.zero, i.size, i.bytes)) = some (some (.agg #[.int .i64 0, .int .i64 0]), 2, 16) := by kernel_rfl
theorem et79 : ElemT Try.prog 79 101 2 16 := ElemT.mk Try.underlying79 info101 rfl
set_option maxRecDepth 100000 in
set_option maxHeartbeats 2000000 in
theorem road_own (A : Option Addr) (n c : Nat) (ts : List Br) (w : World) (hn : ts.length = n) (hm : n ≤ 1000000) (ht : Cells w A 2 Br.enc ts) :
    Calls Try.prog 54 #[.slice A n c] w fun e w' => ∃ v, e = .returned v ∧ OwnL w' w.heap.size 101 2 Br.enc v ts ∧ Below w.heap.size w w' := by
  have Hn := Lib.hid hn
  clear hn
  go_enter Try.func54, Try.ntmps54
  go_wp2
  go_loopw [3, 4] (fun v t wr => ∃ k : Nat, t = .int .i64 k ∧ k ≤ n ∧ OwnL wr w.heap.size 101 2 Br.enc v (ts.take k) ∧ Below w.heap.size w wr) (fun _ t _ => n - (intOf t).toNat)
  case atStart => exact ⟨0, rfl, by omega, OwnL.nil, Below.refl _ _⟩
  case round =>
    obtain ⟨k, rfl, hk, ho, hb⟩ := hrel
    by_cases hlt : k < n
    · have hlt' : (k : Int) < n := by omega
      have hkt : k < ts.length := by rw [Hn.out]; exact hlt
      obtain ⟨A2, c2, rfl, -, -, -⟩ := ho.cells br_len
      have hlk : (ts.take k).length = k := by rw [List.length_take]; omega
      rw [hlk] at ho ⊢
      go_upto_region 5 with fail
      refine Dr.wp_region_plan 13 [] (.q [0, 1, 2, 3, 4, 5, 6, 7, 8, 9, 10, 11] (.e1 12 .done)) (by kernel_rfl) (by kernel_rfl) ?_
      replace hb := hb.drew
      replace ho := ho.drew
      generalize World.drew wr = V at *
      obtain ⟨b, off, rfl, -, d0, d1⟩ := (ht.ext hb).at2 hkt rfl
      have q0 := Dr.cell0 d0
      have q1 := Dr.cell0 d1
      have Hts := Lib.hid (show ts.take (k + 1) = ts.take k ++ [ts[k]] from List.take_succ_eq_append_getElem hkt)
      clear d0 d1
      obtain ⟨t, htk⟩ : ∃ t, ts[k] = t := ⟨_, rfl⟩
      rw [htk] at q0 q1 Hts
      clear htk
      obtain ⟨t0, t1⟩ := t
      simp only at q0 q1
      refine Dr.plan_q (l := [_, _, _, _, _, _, _, _, _, _, _, _]) rfl (fun K hK => ?_)
      iterate 12 (go_big_quiet_step (fail))
      refine wpQuiet_nil (hK _ ?_); clear hK K
      clear q0 q1
      refine Dr.plan_e rfl (by rfl) (fun K hK => ?_)
      go_wp2
      have hbs : Below V.heap.size V (V.alloc (.cells #[.int .i64 t0, .int .i64 t1] 101)) := ext_alloc _ _
      have nw := Blk.new V 101 [.int .i64 t0, .int .i64 t1]
      refine hK _ _ (.of hbs) ?_; clear hK K
      have hs := hb.size
      replace hb := hb.trans (hbs.mono hs)
      replace ho := ho.ext hbs
      change Blk (V.alloc (.cells #[.int .i64 t0, .int .i64 t1] 101)) _ _ _ at nw
      generalize V.alloc (.cells #[.int .i64 t0, .int .i64 t1] 101) = V1 at *
      refine Dr.plan_done (tl := [_, _]) rfl ?_
      refine app1 Br.enc 79 101 2 16 et79 (by decide) (by decide) br_len br_one rfl _ _ rfl w.heap.size _ (ts.take k) rfl ho V.heap.size rfl ⟨t0, t1⟩ (fun j u hj => nw.cell hj) (by rw [hlk]; omega) hb.size ?_
      intro g' cap' w' hown' hb3 _ _
      rw [← Hts.out, hlk] at hown'
      rw [hlk]
      have hb4 := hb.trans hb3
      clear hb3 nw ho hbs hb hlk
      go_wp2
      go_roundw
      case rel => exact ⟨k + 1, by go_num, by omega, hown', hb4⟩
      case measure => simp [intOf]; omega
    · obtain rfl : k = n := by omega
      rw [List.take_of_length_le (by rw [Hn.out]; omega)] at ho
      go_wp2
      go_ret
      exact ⟨_, rfl, ho, hb⟩
set_option maxHeartbeats 1000000 in
theorem RoadFault_any (A : Option Addr) (n c : Nat) (ts : List Br) (w : World) (hn : ts.length = n) (hm : n ≤ 9223372036854775807) (ht : Cells w A 2 Br.enc ts) :
    Calls Try.prog 57 #[.slice A n c] w fun e w' => e = .returned (.int .i64 (roadE ts)) ∧ w = w' := by
  generalize hres : roadE ts = res
  unfold roadE at hres
  rw [hn] at hres
  have Hn := Lib.hid hn
  clear hn
  by_cases h30 : 30 < n
  · rw [if_pos h30] at hres
    have Hres := Lib.hid hres
    clear hres
    have h30' : (30 : Int) < (n : Int) := by omega
    go_enter Try.func57, Try.ntmps57
    go_wp2
    go_ret
    exact ⟨by rw [← Hres.out]; rfl, rfl⟩
  rw [if_neg h30] at hres
  have Hres := Lib.hid hres
  clear hres
  have h30' : ¬ (30 : Int) < (n : Int) := by omega
  go_enter Try.func57, Try.ntmps57
  go_wp2
  go_loop [3] (fun t => ∃ k : Nat, t = .int .i64 k ∧ k ≤ n ∧ Hid ((ts.take k).all Br.okB = true)) (fun t => n - (intOf t).toNat)
  case atStart => exact ⟨0, rfl, by omega, Lib.hid rfl⟩
  case round =>
    obtain ⟨k, rfl, hk, Hk⟩ := hrel
    by_cases hlt : k < n
    · have hlt' : (k : Int) < n := by omega
      have hkt : k < ts.length := by rw [Hn.out]; exact hlt
      obtain ⟨b, off, rfl, -, d0, d1⟩ := ht.at2 hkt rfl
      have Hok := Lib.hid (show ts[k].okB = true → (ts.take (k + 1)).all Br.okB = true from fun h => by
        rw [List.take_succ_eq_append_getElem hkt, List.all_append, Hk.out]; simp [h])
      have Hno := Lib.hid (show ts[k].okB = false → 1 = res from fun h => by
        rw [← Hres.out, if_neg]
        intro h2
        rw [List.all_eq_true] at h2
        rw [h2 _ (List.getElem_mem hkt)] at h
        cases h)
      unfold Br.okB at Hok Hno
      generalize ts[k].limit = a0 at *
      generalize ts[k].clear = a1 at *
      have C1 := Lib.hid (fun W => In_any a0 0 300000 W)
      have C2 := Lib.hid (fun W => In_any a1 0 600 W)
      generalize btw a0 0 300000 = b1 at *
      generalize btw a1 0 600 = b2 at *
      go_wp2_with fail
      refine (C1.out _).mono ?_; rintro e w1 ⟨rfl, rfl⟩
      cases b1
      · have Hr := Lib.hid (Hno.out (by simp))
        go_wp2
        go_ret
        exact ⟨by rw [← Hr.out]; rfl, rfl⟩
      go_wp2_with fail
      refine (C2.out _).mono ?_; rintro e w2 ⟨rfl, rfl⟩
      cases b2
      · have Hr := Lib.hid (Hno.out (by simp))
        go_wp2
        go_ret
        exact ⟨by rw [← Hr.out]; rfl, rfl⟩
      have H2 := Lib.hid (Hok.out rfl)
      go_wp2
      go_round
      case rel => exact ⟨k + 1, by go_num, by omega, H2⟩
      case measure => simp [intOf]; omega
    · obtain rfl : k = n := by omega
      have Hr := Lib.hid (show 0 = res by
        rw [← Hres.out]
        have e := Hk.out
        rw [List.take_of_length_le (by rw [Hn.out]; omega)] at e
        rw [if_pos e])
      go_wp2
      go_ret
      exact ⟨by rw [← Hr.out]; rfl, rfl⟩
theorem Holds_any (A : Option Addr) (n c : Nat) (h ca em re ax dk : Int) (l : List Int) (x y : Int) (w : World) :
    Calls Try.prog 56 #[.agg #[.slice A n c, .int .i64 h, .int .i64 ca, .int .i64 em, .int .i64 re, .int .i64 ax, .int .i64 dk], .int .i64 x, .int .i64 y] w fun e w' => e = .returned (.bool (holdsB ⟨l, h, ca, em, re, ax, dk⟩ x y)) ∧ Below w.heap.size w w' := by
  have hb := ext_alloc w (.cells #[.slice A n c, .int .i64 h, .int .i64 ca, .int .i64 em, .int .i64 re, .int .i64 ax, .int .i64 dk] 37)
  have hP := Blk.new w 37 [.slice A n c, .int .i64 h, .int .i64 ca, .int .i64 em, .int .i64 re, .int .i64 ax, .int .i64 dk]
  have C := Lib.hid (fun W => In_any x 0 ax W)
  generalize hres : holdsB ⟨l, h, ca, em, re, ax, dk⟩ x y = res
  unfold holdsB at hres
  simp only at hres
  generalize btw x 0 ax = b at *
  have Hres := Lib.hid hres
  clear hres
  go_enter Try.func56, Try.ntmps56
  go_upto_region 1 with fail
  change Blk (w.alloc (.cells #[.slice A n c, .int .i64 h, .int .i64 ca, .int .i64 em, .int .i64 re, .int .i64 ax, .int .i64 dk] 37)) _ _ _ at hP
  generalize w.alloc (.cells #[.slice A n c, .int .i64 h, .int .i64 ca, .int .i64 em, .int .i64 re, .int .i64 ax, .int .i64 dk] 37) = W0 at *
  have q5 : W0.cell? ⟨w.heap.size, 5, none⟩ = _ := hP.cell rfl
  by_cases hle : y ≤ ax
  · have Hr := Lib.hid (show b = res by rw [← Hres.out]; simp [hle])
    go_wp2_with fail
    refine (C.out _).mono ?_; rintro e w1 ⟨rfl, rfl⟩
    go_wp2
    go_ret
    exact ⟨ret_congr (bool_congr Hr.out), hb⟩
  · have hle2 : decide (y ≤ ax) = false := decide_eq_false hle
    have Hr := Lib.hid (show false = res by rw [← Hres.out, hle2]; rfl)
    go_wp2
    go_ret
    exact ⟨ret_congr (bool_congr Hr.out), hb⟩
end Go.Proofs.Ytbpmfaibcibleaa

/- Walk: RightLorry, Fault. (Printed by mk_lhpc.py.) -/
import Derived.Test.YtbpmfaibcibleaaLhpB
namespace Go.Proofs.Ytbpmfaibcibleaa
open Go.RowKit Go.Bs Go.Wg Go.Pl Go.Sort
set_option maxHeartbeats 2000000 in
theorem rlorry_any (A : Option Addr) (n c : Nat) (h ca em re ax dk : Int) (l : List Int) (w : World) (hn : l.length = n) (hm : n ≤ 9223372036854775807) (hd : Cells w A 1 Go.Bs.encI l) :
    Calls Try.prog 47 #[.agg #[.slice A n c, .int .i64 h, .int .i64 ca, .int .i64 em, .int .i64 re, .int .i64 ax, .int .i64 dk]] w fun e w' => e = .returned (.bool (Lo.okB ⟨l, h, ca, em, re, ax, dk⟩)) ∧ Below w.heap.size w w' := by
  have hb := ext_alloc w (.cells #[.slice A n c, .int .i64 h, .int .i64 ca, .int .i64 em, .int .i64 re, .int .i64 ax, .int .i64 dk] 37)
  have hP := Blk.new w 37 [.slice A n c, .int .i64 h, .int .i64 ca, .int .i64 em, .int .i64 re, .int .i64 ax, .int .i64 dk]
  have hd0 := hd.ext hb
  generalize hres : Lo.okB ⟨l, h, ca, em, re, ax, dk⟩ = res
  unfold Lo.okB at hres
  simp only at hres
  rw [hn] at hres
  have C0 := Lib.hid (fun W => In_any (n : Int) 1 6 W)
  generalize btw (n : Int) 1 6 = b0 at *
  have C1 := Lib.hid (fun W => In_any h 1 500 W)
  generalize btw h 1 500 = b1 at *
  have C2 := Lib.hid (fun W => In_any ca 0 100000 W)
  generalize btw ca 0 100000 = b2 at *
  have C3 := Lib.hid (fun W => In_any em 0 100000 W)
  generalize btw em 0 100000 = b3 at *
  have C4 := Lib.hid (fun W => In_any re 1 4000 W)
  generalize btw re 1 4000 = b4 at *
  have C5 := Lib.hid (fun W => In_any ax 0 100000 W)
  generalize btw ax 0 100000 = b5 at *
  have C6 := Lib.hid (fun W => In_any dk 0 100 W)
  generalize btw dk 0 100 = b6 at *
  have Hres := Lib.hid hres
  have Hn := Lib.hid hn
  clear hres hn hd
  go_enter Try.func47, Try.ntmps47
  go_upto_region 1 with fail
  change Blk (w.alloc (.cells #[.slice A n c, .int .i64 h, .int .i64 ca, .int .i64 em, .int .i64 re, .int .i64 ax, .int .i64 dk] 37)) _ _ _ at hP
  change Below w.heap.size w (w.alloc (.cells #[.slice A n c, .int .i64 h, .int .i64 ca, .int .i64 em, .int .i64 re, .int .i64 ax, .int .i64 dk] 37)) at hb
  change Cells (w.alloc (.cells #[.slice A n c, .int .i64 h, .int .i64 ca, .int .i64 em, .int .i64 re, .int .i64 ax, .int .i64 dk] 37)) _ _ _ _ at hd0
  generalize w.alloc (.cells #[.slice A n c, .int .i64 h, .int .i64 ca, .int .i64 em, .int .i64 re, .int .i64 ax, .int .i64 dk] 37) = W0 at *
  have hlt0 := hP.lt
  have q0 : W0.cell? ⟨w.heap.size, 0, none⟩ = _ := hP.cell rfl
  have q1 : W0.cell? ⟨w.heap.size, 1, none⟩ = _ := hP.cell rfl
  have q2 : W0.cell? ⟨w.heap.size, 2, none⟩ = _ := hP.cell rfl
  have q3 : W0.cell? ⟨w.heap.size, 3, none⟩ = _ := hP.cell rfl
  have q4 : W0.cell? ⟨w.heap.size, 4, none⟩ = _ := hP.cell rfl
  have q5 : W0.cell? ⟨w.heap.size, 5, none⟩ = _ := hP.cell rfl
  have q6 : W0.cell? ⟨w.heap.size, 6, none⟩ = _ := hP.cell rfl
  go_wp2
  go_loop [3] (fun t => ∃ k : Nat, t = .int .i64 k ∧ k ≤ n ∧ Hid ((l.take k).all (fun x => btw x 1 2000) = true)) (fun t => n - (intOf t).toNat)
  case atStart => exact ⟨0, rfl, by omega, Lib.hid rfl⟩
  case round =>
    obtain ⟨k, rfl, hk, Hk⟩ := hrel
    by_cases hlt : k < n
    · have hlt' : (k : Int) < n := by omega
      have hkt : k < l.length := by rw [Hn.out]; exact hlt
      obtain ⟨b, off, rfl, -, d0⟩ := hd0.at1 hkt rfl
      have Hok := Lib.hid (show btw l[k] 1 2000 = true → (l.take (k + 1)).all (fun x => btw x 1 2000) = true from fun h => by
        rw [List.take_succ_eq_append_getElem hkt, List.all_append, Hk.out]; simp [h])
      have Hno := Lib.hid (show btw l[k] 1 2000 = false → false = res from fun h => by
        have h3 : l.all (fun x => btw x 1 2000) = false := by
          refine Bool.eq_false_iff.2 fun h2 => ?_
          rw [List.all_eq_true] at h2
          rw [h2 _ (List.getElem_mem hkt)] at h
          cases h
        rw [← Hres.out, h3]; simp)
      generalize l[k] = a0 at *
      have D := Lib.hid (fun W => In_any a0 1 2000 W)
      generalize btw a0 1 2000 = bb at *
      go_wp2_with fail
      refine (D.out _).mono ?_; rintro e w1 ⟨rfl, rfl⟩
      cases bb
      · have Hr := Lib.hid (Hno.out rfl)
        go_wp2
        go_ret
        exact ⟨ret_congr (bool_congr Hr.out), hb⟩
      have H2 := Lib.hid (Hok.out rfl)
      go_wp2
      go_round
      case rel => exact ⟨k + 1, by go_num, by omega, H2⟩
      case measure => simp [intOf]; omega
    · obtain rfl : k = n := by omega
      have Hr := Lib.hid (show (b0 && b1 && b2 && b3 && b4 && b5 && b6) = res by
        rw [← Hres.out]
        have e := Hk.out
        rw [List.take_of_length_le (by rw [Hn.out]; omega)] at e
        rw [e, Bool.and_true])
      go_wp2_with fail
      refine (C0.out _).mono ?_; rintro e w0 ⟨rfl, rfl⟩
      cases b0
      · have Hr2 := Lib.hid (show false = res by rw [← Hr.out]; simp)
        go_wp2
        go_ret
        exact ⟨ret_congr (bool_congr Hr2.out), hb⟩
      go_wp2_with fail
      refine (C1.out _).mono ?_; rintro e w1 ⟨rfl, rfl⟩
      cases b1
      · have Hr2 := Lib.hid (show false = res by rw [← Hr.out]; simp)
        go_wp2
        go_ret
        exact ⟨ret_congr (bool_congr Hr2.out), hb⟩
      go_wp2_with fail
      refine (C2.out _).mono ?_; rintro e w2 ⟨rfl, rfl⟩
      cases b2
      · have Hr2 := Lib.hid (show false = res by rw [← Hr.out]; simp)
        go_wp2
        go_ret
        exact ⟨ret_congr (bool_congr Hr2.out), hb⟩
      go_wp2_with fail
      refine (C3.out _).mono ?_; rintro e w3 ⟨rfl, rfl⟩
      cases b3
      · have Hr2 := Lib.hid (show false = res by rw [← Hr.out]; simp)
        go_wp2
        go_ret
        exact ⟨ret_congr (bool_congr Hr2.out), hb⟩
      go_wp2_with fail
      refine (C4.out _).mono ?_; rintro e w4 ⟨rfl, rfl⟩
      cases b4
      · have Hr2 := Lib.hid (show false = res by rw [← Hr.out]; simp)
        go_wp2
        go_ret
        exact ⟨ret_congr (bool_congr Hr2.out), hb⟩
      go_wp2_with fail
      refine (C5.out _).mono ?_; rintro e w5 ⟨rfl, rfl⟩
      cases b5
      · have Hr2 := Lib.hid (show false = res by rw [← Hr.out]; simp)
        go_wp2
        go_ret
        exact ⟨ret_congr (bool_congr Hr2.out), hb⟩
      go_wp2_with fail
      refine (C6.out _).mono ?_; rintro e w6 ⟨rfl, rfl⟩
      have Hr2 := Lib.hid (show b6 = res by rw [← Hr.out]; simp)
      go_wp2
      go_ret
      exact ⟨ret_congr (bool_congr Hr2.out), hb⟩
set_option maxHeartbeats 1000000 in
theorem Fault_any (A : Option Addr) (n c : Nat) (h ca em re ax dk : Int) (l : List Int) (T : Option Addr) (m cT : Nat) (ts : List Th) (w : World) (hn : l.length = n) (hm : n ≤ 9223372036854775807) (hd : Cells w A 1 Go.Bs.encI l) (hn2 : ts.length = m) (hm2 : m ≤ 9223372036854775807) (ht : Cells w T 4 Th.enc ts) :
    Calls Try.prog 29 #[.agg #[.slice A n c, .int .i64 h, .int .i64 ca, .int .i64 em, .int .i64 re, .int .i64 ax, .int .i64 dk], .slice T m cT] w fun e w' => e = .returned (.int .i64 (checkE ⟨l, h, ca, em, re, ax, dk⟩ ts)) ∧ Below w.heap.size w w' := by
  have hb := ext_alloc w (.cells #[.slice A n c, .int .i64 h, .int .i64 ca, .int .i64 em, .int .i64 re, .int .i64 ax, .int .i64 dk] 37)
  have hP := Blk.new w 37 [.slice A n c, .int .i64 h, .int .i64 ca, .int .i64 em, .int .i64 re, .int .i64 ax, .int .i64 dk]
  have C1 := Lib.hid (rlorry_any A n c h ca em re ax dk l (w.alloc (.cells #[.slice A n c, .int .i64 h, .int .i64 ca, .int .i64 em, .int .i64 re, .int .i64 ax, .int .i64 dk] 37)) hn hm (hd.ext hb))
  have HT := Lib.hid (fun W (hW : Below w.heap.size w W) => rthings_any T m cT ts W hn2 hm2 (ht.ext hW))
  generalize hres : checkE ⟨l, h, ca, em, re, ax, dk⟩ ts = res
  unfold checkE cargoE at hres
  rw [hn2] at hres
  generalize Lo.okB ⟨l, h, ca, em, re, ax, dk⟩ = b0 at *
  generalize ts.all Th.okB = b1 at *
  have Hres := Lib.hid hres
  clear hres hn hn2 hd ht
  go_enter Try.func29, Try.ntmps29
  go_upto_region 1 with fail
  change Blk (w.alloc (.cells #[.slice A n c, .int .i64 h, .int .i64 ca, .int .i64 em, .int .i64 re, .int .i64 ax, .int .i64 dk] 37)) _ _ _ at hP
  change Below w.heap.size w (w.alloc (.cells #[.slice A n c, .int .i64 h, .int .i64 ca, .int .i64 em, .int .i64 re, .int .i64 ax, .int .i64 dk] 37)) at hb
  generalize w.alloc (.cells #[.slice A n c, .int .i64 h, .int .i64 ca, .int .i64 em, .int .i64 re, .int .i64 ax, .int .i64 dk] 37) = W0 at *
  have q0 : W0.cell? ⟨w.heap.size, 0, none⟩ = _ := hP.cell rfl
  have q1 : W0.cell? ⟨w.heap.size, 1, none⟩ = _ := hP.cell rfl
  have q2 : W0.cell? ⟨w.heap.size, 2, none⟩ = _ := hP.cell rfl
  have q3 : W0.cell? ⟨w.heap.size, 3, none⟩ = _ := hP.cell rfl
  have q4 : W0.cell? ⟨w.heap.size, 4, none⟩ = _ := hP.cell rfl
  have q5 : W0.cell? ⟨w.heap.size, 5, none⟩ = _ := hP.cell rfl
  have q6 : W0.cell? ⟨w.heap.size, 6, none⟩ = _ := hP.cell rfl
  go_wp2_with fail
  refine C1.out.mono ?_; rintro e W1 ⟨rfl, hx⟩
  replace hb := ext_trans hb hx
  clear q0 q1 q2 q3 q4 q5 q6 C1 hP hx
  cases b0
  · have Hr := Lib.hid (show 1 = res by rw [← Hres.out]; rfl)
    go_wp2
    go_ret
    exact ⟨by rw [← Hr.out]; rfl, hb⟩
  by_cases h14 : 14 < m
  · have h14' : (14 : Int) < (m : Int) := by omega
    have Hr := Lib.hid (show 3 = res by rw [← Hres.out, if_pos rfl, if_pos h14])
    go_wp2
    go_ret
    exact ⟨by rw [← Hr.out]; rfl, hb⟩
  have D := Lib.hid (HT.out W1 hb)
  have h14' : ¬ (14 : Int) < (m : Int) := by omega
  have Hq := Lib.hid (show (if b1 = true then (0 : Int) else 1) = res by rw [← Hres.out, if_pos rfl, if_neg h14])
  go_wp2_with fail
  refine D.out.mono ?_; rintro e W2 ⟨rfl, rfl⟩
  cases b1
  · have Hr := Lib.hid (show 1 = res by rw [← Hq.out]; rfl)
    go_wp2
    go_ret
    exact ⟨by rw [← Hr.out]; rfl, hb⟩
  · have Hr := Lib.hid (show 0 = res by rw [← Hq.out]; rfl)
    go_wp2
    go_ret
    exact ⟨by rw [← Hr.out]; rfl, hb⟩
end Go.Proofs.Ytbpmfaibcibleaa

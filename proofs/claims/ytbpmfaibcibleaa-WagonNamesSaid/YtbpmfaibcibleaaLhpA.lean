/- Walk: list, Thin, RightThings, Things. (Printed by mk_lhpa.py.) -/
import Derived.Test.YtbpmfaibcibleaaWaC
namespace Go.Proofs.Ytbpmfaibcibleaa
open Go.RowKit Go.Bs Go.Wg Go.Pl Go.Sort
theorem list_own (A : Option Addr) (n c : Nat) (l : List Int) (w : World) (hn : l.length = n) (hm : n ≤ 1000000000) (hd : Cells w A 1 Go.Bs.encI l) :
    Calls Try.prog 44 #[.slice A n c] w fun e w' => ∃ v, e = .returned v ∧ OwnL w' w.heap.size 3 1 Go.Bs.encI v l ∧ Below w.heap.size w w' := by
  have ho : OwnL w w.heap.size 3 1 Go.Bs.encI (.slice none 0 0) ([] : List Int) := OwnL.nil
  go_enter Try.func44, Try.ntmps44
  go_wp2_with (at_builtin; refine app_ints 35 3 et35 rfl _ _ rfl w.heap.size _ [] rfl ho A n c l hn rfl hd (by simp; omega) (by simp) ?_; intro v' w' hown hb _ _)
  go_ret
  exact ⟨_, rfl, hown, hb⟩
theorem list_any (A : Option Addr) (n c : Nat) (l : List Int) (w : World) (hn : l.length = n) (hm : n ≤ 1000000000) (hd : Cells w A 1 Go.Bs.encI l) :
    Calls Try.prog 44 #[.slice A n c] w fun e w' => ∃ v, e = .returned v ∧ FreshL w w' 1 Go.Bs.encI v l ∧ Below w.heap.size w w' :=
  (list_own A n c l w hn hm hd).mono (by rintro e w' ⟨v, rfl, ho, hb⟩; exact ⟨v, rfl, FreshL.of_own ho Go.Bs.encI_len (Nat.le_refl _), hb⟩)
theorem Thin_any (A : Option Addr) (n c : Nat) (h ca e r a dk : Int) (w : World) :
    Calls Try.prog 23 #[.agg #[.slice A n c, .int .i64 h, .int .i64 ca, .int .i64 e, .int .i64 r, .int .i64 a, .int .i64 dk]] w fun z w' => z = .returned (.bool (decide (n ≤ 10))) ∧ Below w.heap.size w w' := by
  have hb := ext_alloc w (.cells #[.slice A n c, .int .i64 h, .int .i64 ca, .int .i64 e, .int .i64 r, .int .i64 a, .int .i64 dk] 37)
  have Hd := Lib.hid (show decide ((n : Int) ≤ 10) = decide (n ≤ 10) by by_cases h : n ≤ 10 <;> simp [h] <;> omega)
  go_enter Try.func23, Try.ntmps23
  go_wp2
  go_ret
  exact ⟨ret_congr (bool_congr Hd.out), hb⟩
set_option maxHeartbeats 1000000 in
theorem rthings_any (A : Option Addr) (n c : Nat) (ts : List Th) (w : World) (hn : ts.length = n) (hm : n ≤ 9223372036854775807) (ht : Cells w A 4 Th.enc ts) :
    Calls Try.prog 42 #[.slice A n c] w fun e w' => e = .returned (.bool (ts.all Th.okB)) ∧ w = w' := by
  generalize hres : ts.all Th.okB = res
  have Hres := Lib.hid hres
  have Hn := Lib.hid hn
  clear hres hn
  go_enter Try.func42, Try.ntmps42
  go_wp2
  go_loop [3] (fun t => ∃ k : Nat, t = .int .i64 k ∧ k ≤ n ∧ Hid ((ts.take k).all Th.okB = true)) (fun t => n - (intOf t).toNat)
  case atStart => exact ⟨0, rfl, by omega, Lib.hid rfl⟩
  case round =>
    obtain ⟨k, rfl, hk, Hk⟩ := hrel
    by_cases hlt : k < n
    · have hlt' : (k : Int) < n := by omega
      have hkt : k < ts.length := by rw [Hn.out]; exact hlt
      obtain ⟨b, off, rfl, -, d0, d1, d2, d3⟩ := ht.at4 hkt rfl
      have Hok := Lib.hid (show ts[k].okB = true → (ts.take (k + 1)).all Th.okB = true from fun h => by
        rw [List.take_succ_eq_append_getElem hkt, List.all_append, Hk.out]; simp [h])
      have Hno := Lib.hid (show ts[k].okB = false → false = res from fun h => by
        rw [← Hres.out]
        refine (Bool.eq_false_iff.2 fun h2 => ?_).symm
        rw [List.all_eq_true] at h2
        rw [h2 _ (List.getElem_mem hkt)] at h
        cases h)
      unfold Th.okB at Hok Hno
      generalize ts[k].long = a0 at *
      generalize ts[k].high = a1 at *
      generalize ts[k].mass = a2 at *
      generalize ts[k].need = a3 at *
      have C1 := Lib.hid (fun W => In_any a0 1 2000 W)
      have C2 := Lib.hid (fun W => In_any a1 1 500 W)
      have C3 := Lib.hid (fun W => In_any a2 0 100000 W)
      have C4 := Lib.hid (fun W => In_any a3 0 1000 W)
      generalize btw a0 1 2000 = b1 at *
      generalize btw a1 1 500 = b2 at *
      generalize btw a2 0 100000 = b3 at *
      generalize btw a3 0 1000 = b4 at *
      go_wp2_with fail
      refine (C1.out _).mono ?_; rintro e w1 ⟨rfl, rfl⟩
      cases b1
      · have Hr := Lib.hid (Hno.out (by simp))
        go_wp2
        go_ret
        exact ⟨ret_congr (bool_congr Hr.out), rfl⟩
      go_wp2_with fail
      refine (C2.out _).mono ?_; rintro e w2 ⟨rfl, rfl⟩
      cases b2
      · have Hr := Lib.hid (Hno.out (by simp))
        go_wp2
        go_ret
        exact ⟨ret_congr (bool_congr Hr.out), rfl⟩
      go_wp2_with fail
      refine (C3.out _).mono ?_; rintro e w3 ⟨rfl, rfl⟩
      cases b3
      · have Hr := Lib.hid (Hno.out (by simp))
        go_wp2
        go_ret
        exact ⟨ret_congr (bool_congr Hr.out), rfl⟩
      go_wp2_with fail
      refine (C4.out _).mono ?_; rintro e w4 ⟨rfl, rfl⟩
      cases b4
      · have Hr := Lib.hid (Hno.out (by simp))
        go_wp2
        go_ret
        exact ⟨ret_congr (bool_congr Hr.out), rfl⟩
      have H2 := Lib.hid (Hok.out rfl)
      go_wp2
      go_round
      case rel => exact ⟨k + 1, by go_num, by omega, H2⟩
      case measure => simp [intOf]; omega
    · obtain rfl : k = n := by omega
      have Hr := Lib.hid (show true = res by
        rw [← Hres.out]
        have e := Hk.out
        rw [List.take_of_length_le (by rw [Hn.out]; omega)] at e
        exact e.symm)
      go_wp2
      go_ret
      exact ⟨ret_congr (bool_congr Hr.out), rfl⟩
theorem info102 : (Try.prog.info? 102).map (fun i => (i.zero, i.size, i.bytes)) = some (some (.agg #[.int .i64 0, .int .i64 0, .int .i64 0, .int .i64 0]), 4, 32) := by kernel_rfl
theorem et46 : ElemT Try.prog 46 102 4 32 := ElemT.mk Try.underlying46 info102 rfl
set_option maxRecDepth 100000 in
set_option maxHeartbeats 2000000 in
theorem things_own (A : Option Addr) (n c : Nat) (ts : List Th) (w : World) (hn : ts.length = n) (hm : n ≤ 1000000) (ht : Cells w A 4 Th.enc ts) :
    Calls Try.prog 27 #[.slice A n c] w fun e w' => ∃ v, e = .returned v ∧ OwnL w' w.heap.size 102 4 Th.enc v ts ∧ Below w.heap.size w w' := by
  have Hn := Lib.hid hn
  clear hn
  go_enter Try.func27, Try.ntmps27
  go_wp2
  go_loopw [3, 4] (fun v t wr => ∃ k : Nat, t = .int .i64 k ∧ k ≤ n ∧ OwnL wr w.heap.size 102 4 Th.enc v (ts.take k) ∧ Below w.heap.size w wr) (fun _ t _ => n - (intOf t).toNat)
  case atStart => exact ⟨0, rfl, by omega, OwnL.nil, Below.refl _ _⟩
  case round =>
    obtain ⟨k, rfl, hk, ho, hb⟩ := hrel
    by_cases hlt : k < n
    · have hlt' : (k : Int) < n := by omega
      have hkt : k < ts.length := by rw [Hn.out]; exact hlt
      obtain ⟨A2, c2, rfl, -, -, -⟩ := ho.cells th_len
      have hlk : (ts.take k).length = k := by rw [List.length_take]; omega
      rw [hlk] at ho ⊢
      go_upto_region 5 with fail
      refine Dr.wp_region_plan 23 [] (.q [0, 1, 2, 3, 4, 5, 6, 7, 8, 9, 10, 11, 12, 13, 14, 15, 16, 17, 18, 19, 20, 21] (.e1 22 .done)) (by kernel_rfl) (by kernel_rfl) ?_
      replace hb := hb.drew
      replace ho := ho.drew
      generalize World.drew wr = V at *
      obtain ⟨b, off, rfl, -, d0, d1, d2, d3⟩ := (ht.ext hb).at4 hkt rfl
      have q0 := Dr.cell0 d0
      have q1 := Dr.cell0 d1
      have q2 := Dr.cell0 d2
      have q3 := Dr.cell0 d3
      have Hts := Lib.hid (show ts.take (k + 1) = ts.take k ++ [ts[k]] from List.take_succ_eq_append_getElem hkt)
      clear d0 d1 d2 d3
      obtain ⟨t, htk⟩ : ∃ t, ts[k] = t := ⟨_, rfl⟩
      rw [htk] at q0 q1 q2 q3 Hts
      clear htk
      obtain ⟨t0, t1, t2, t3⟩ := t
      simp only at q0 q1 q2 q3
      refine Dr.plan_q (l := [_, _, _, _, _, _, _, _, _, _, _, _, _, _, _, _, _, _, _, _, _, _]) rfl (fun K hK => ?_)
      iterate 22 (go_big_quiet_step (fail))
      refine wpQuiet_nil (hK _ ?_); clear hK K
      clear q0 q1 q2 q3
      refine Dr.plan_e rfl (by rfl) (fun K hK => ?_)
      go_wp2
      have hbs : Below V.heap.size V (V.alloc (.cells #[.int .i64 t0, .int .i64 t1, .int .i64 t2, .int .i64 t3] 102)) := ext_alloc _ _
      have nw := Blk.new V 102 [.int .i64 t0, .int .i64 t1, .int .i64 t2, .int .i64 t3]
      refine hK _ _ (.of hbs) ?_; clear hK K
      have hs := hb.size
      replace hb := hb.trans (hbs.mono hs)
      replace ho := ho.ext hbs
      change Blk (V.alloc (.cells #[.int .i64 t0, .int .i64 t1, .int .i64 t2, .int .i64 t3] 102)) _ _ _ at nw
      generalize V.alloc (.cells #[.int .i64 t0, .int .i64 t1, .int .i64 t2, .int .i64 t3] 102) = V1 at *
      refine Dr.plan_done (tl := [_, _]) rfl ?_
      refine app1 Th.enc 46 102 4 32 et46 (by decide) (by decide) th_len th_one rfl _ _ rfl w.heap.size _ (ts.take k) rfl ho V.heap.size rfl ⟨t0, t1, t2, t3⟩ (fun j u hj => nw.cell hj) (by rw [hlk]; omega) hb.size ?_
      intro g' cap' w' hown' hb3 _ _
      rw [← Hts.out, hlk] at hown'
      rw [hlk]
      have hb4 := hb.trans hb3
      clear hb3 nw ho hbs hb hlk
      go_wp2
      go_roundw
      case rel => exact ⟨k + 1, by go_num, by omega, hown', hb4⟩
      case measure => simp [intOf]; omega
    · obtain rfl : k = n := by omega
      rw [List.take_of_length_le (by rw [Hn.out]; omega)] at ho
      go_wp2
      go_ret
      exact ⟨_, rfl, ho, hb⟩
end Go.Proofs.Ytbpmfaibcibleaa

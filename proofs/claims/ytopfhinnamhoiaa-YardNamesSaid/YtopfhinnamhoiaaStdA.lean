/- Walk: the reference's Stands. -/
import Derived.Deep.DeepCutAuto
import Derived.Maps.RangeWalk
import Derived.Test.YtopfhinnamhoiaaSpecZ
namespace Go.Proofs.Ytopfhinnamhoiaa
open Go.RowKit Go.Bs Go.Yd Go.Pl Go.Sort

set_option maxRecDepth 100000 in
set_option maxHeartbeats 2000000 in
theorem StandsR_any (y : Yrd) (hok : Yrd.okB y = true) (A1 A2 A3 V : Option Addr) (n1 n2 n3 c1 c2 c3 m cm : Nat) (pl : List Int) (w : World) (h1 : y.boxes.length = n1) (h2 : y.needs.length = n2) (h3 : y.foes.length = n3) (hm : pl.length = m) (hmn : m ≤ n2) (hd : YdAt w y A1 A2 A3) (hv : Cells w V 1 encI pl) :
    Calls Try.prog 42 #[.agg #[.slice A1 n1 c1, .slice A2 n2 c2, .slice A3 n3 c3], .slice V m cm] w fun e w' => e = .returned (.bool (arrP y (foeL y.foes) n1 [] pl)) ∧ Below w.heap.size w w' := by
  have hb0 := ext_alloc w (.cells #[.slice A1 n1 c1, .slice A2 n2 c2, .slice A3 n3 c3] 57)
  have hB := Blk.new w 57 [.slice A1 n1 c1, .slice A2 n2 c2, .slice A3 n3 c3]
  obtain ⟨k1, k2, k3, -, -, k6⟩ := Yrd.okB_spec hok
  have hi := refA_iff hok (l := pl)
  rw [h1] at k1
  rw [h2] at k2
  rw [h3] at k3
  rw [h1] at hi
  generalize hres : arrP y (foeL y.foes) n1 [] pl = res
  rw [hres] at hi
  have Hi := Lib.hid hi
  have hbad : ¬ RefA y pl → res = false := fun h => by
    cases hr : res
    · rfl
    · exact absurd (hi.1 hr) h
  have Bad := Lib.hid hbad
  have H1 := Lib.hid h1
  have H2 := Lib.hid h2
  have H3 := Lib.hid h3
  have Hm := Lib.hid hm
  have K6 := Lib.hid k6
  clear hres hi hbad k6
  go_enter Try.func42, Try.ntmps42
  go_upto_region 1 with fail
  change Blk (w.alloc (.cells #[.slice A1 n1 c1, .slice A2 n2 c2, .slice A3 n3 c3] 57)) w.heap.size 57 [.slice A1 n1 c1, .slice A2 n2 c2, .slice A3 n3 c3] at hB
  generalize w.alloc (.cells #[.slice A1 n1 c1, .slice A2 n2 c2, .slice A3 n3 c3] 57) = W0 at *
  go_wp2
  go_loopw [5] (fun x wr => ∃ i : Nat, x = .int .i64 i ∧ i ≤ m ∧ Hid (∀ i' (h : i' < pl.length), i' < i → (0 ≤ pl[i'] ∧ pl[i'] < y.boxes.length) ∧ y.needs.getD i' 0 ≤ y.boxes.getD (pl[i']).toNat 0 ∧ ∀ k (hk : k < i'), pl[k]'(by omega) ≠ pl[i']) ∧ Below w.heap.size w wr ∧ Blk wr w.heap.size 57 [.slice A1 n1 c1, .slice A2 n2 c2, .slice A3 n3 c3]) (fun x _ => m - (intOf x).toNat)
  case atStart => exact ⟨0, rfl, by omega, Lib.hid (fun i' _ h => by omega), hb0, hB⟩
  case round =>
    clear hb0 hB
    obtain ⟨i, rfl, hi, Hk, hb, hB⟩ := hrel
    by_cases hlt : i < m
    · have hlt' : (i : Int) < (m : Int) := by omega
      have hi0 : (0 : Int) ≤ (i : Int) := by omega
      have hin2 : (i : Int) < (n2 : Int) := by omega
      have hil : i < pl.length := by rw [Hm.out]; exact hlt
      have hin : i < y.needs.length := by rw [H2.out]; omega
      have bad1 : ¬ (0 ≤ pl[i] ∧ pl[i] < y.boxes.length) → res = false := fun h => Bad.out (fun hr => h (hr.box i hil))
      have bad2 : ¬ (y.needs.getD i 0 ≤ y.boxes.getD (pl[i]).toNat 0) → res = false := fun h => Bad.out (fun hr => h (hr.room i hil))
      have bad3 : ∀ k (hk : k < i), pl[k]'(by omega) = pl[i] → res = false := fun k hk h => Bad.out (fun hr => hr.one i k hil hk h)
      have Bad1 := Lib.hid bad1
      have Bad2 := Lib.hid bad2
      have Bad3 := Lib.hid bad3
      clear bad1 bad2 bad3
      go_upto_region 4 with fail
      refine Dr.wp_region_plan 26 [] (.q [0, 1, 2, 3, 4, 5, 6, 7] (.e1 8 (.q [9, 10, 11, 12, 13, 14, 15, 16, 17, 18, 19, 20, 21, 22, 23, 24, 25] .done))) (by kernel_rfl) (by kernel_rfl) ?_
      have hb1 := hb.drew
      have hB1 := hB.ext (ext_drew wr)
      clear hb hB
      generalize World.drew _ = W at *
      obtain ⟨bv, ov, rfl, -, e0⟩ := (hv.ext hb1).at1 hil rfl
      obtain ⟨bn, on, rfl, -, e1⟩ := (hd.n.ext hb1).at1 hin rfl
      have hnd : y.needs.getD i 0 = y.needs[i] := by simp [hin]
      rw [hnd] at Bad2
      generalize hvn : y.needs[i] = vn at *
      have q0 := Dr.cell0 e0
      have q1 := Dr.cell0 e1
      have q2 := Dr.cell0 (hB1.cell (i := 0) rfl)
      have q3 := Dr.cell0 (hB1.cell (i := 1) rfl)
      refine Dr.plan_q (l := [_, _, _, _, _, _, _, _]) rfl (fun K hK => ?_)
      iterate 8 (go_big_quiet_step (fail))
      refine wpQuiet_nil (hK _ ?_); clear hK K
      by_cases hx : 0 ≤ pl[i] ∧ pl[i] ≤ (n1 : Int) - 1
      · obtain ⟨p, hp⟩ := Int.eq_ofNat_of_zero_le hx.1
        have hp1 : p < n1 := by omega
        have C1 := Lib.hid (In_t (show 0 ≤ (p : Int) ∧ (p : Int) ≤ (n1 : Int) - 1 by omega))
        have hp1' : (p : Int) < (n1 : Int) := by omega
        have hp0 : (0 : Int) ≤ (p : Int) := by omega
        have hpb : p < y.boxes.length := by rw [H1.out]; exact hp1
        obtain ⟨bb, ob, rfl, -, e2⟩ := (hd.b.ext hb1).at1 hpb rfl
        have hbd : y.boxes.getD p 0 = y.boxes[p] := by simp [hpb]
        have hpt : (pl[i]).toNat = p := by rw [hp]; simp
        rw [hpt, hbd] at Bad2
        generalize hvb : y.boxes[p] = vb at *
        have q4 := Dr.cell0 e2
        rw [hp] at q0
        rw [hp]
        have Hp := Lib.hid hp
        have Hnd := Lib.hid hnd
        have Hbd := Lib.hid hbd
        have Hpt := Lib.hid hpt
        clear hx hp hnd hbd hpt e0 e1 e2
        refine Dr.plan_e rfl (by rfl) (fun K hK => ?_)
        go_wp2_with fail
        refine (C1.out _).mono ?_; rintro e w5 ⟨rfl, rfl⟩
        refine hK _ _ (Dr.Bel.refl _ _) ?_; clear hK K
        refine Dr.plan_q (l := [_, _, _, _, _, _, _, _, _, _, _, _, _, _, _, _, _]) rfl (fun K hK => ?_)
        iterate 17 (go_big_quiet_step (fail))
        refine wpQuiet_nil (hK _ ?_); clear hK K
        refine Dr.plan_end rfl ?_
        clear q0 q1 q2 q3 q4
        by_cases hroom : vb < vn
        · have Hr := Lib.hid (Bad2.out (by omega))
          go_wp2
          go_ret
          exact ⟨ret_congr (bool_congr Hr.out.symm), hb1⟩
        · have Hrm := Lib.hid (show y.needs.getD i 0 ≤ y.boxes.getD (pl[i]).toNat 0 by rw [Hnd.out, Hpt.out, Hbd.out]; omega)
          go_wp2
          go_loopw [6] (fun x wr => ∃ j : Nat, x = .int .i64 j ∧ j ≤ i ∧ Hid (∀ k (hk : k < i), k < j → pl[k]'(by omega) ≠ pl[i]) ∧ Below w.heap.size w wr ∧ Blk wr w.heap.size 57 [.slice (some ⟨bb, ob, none⟩) n1 c1, .slice (some ⟨bn, on, none⟩) n2 c2, .slice A3 n3 c3]) (fun x _ => i - (intOf x).toNat)
          case atStart => exact ⟨0, rfl, by omega, Lib.hid (fun k _ h => by omega), hb1, hB1⟩
          case round =>
            clear hb1 hB1
            obtain ⟨j, rfl, hj, Hj, hb1, hB1⟩ := hrel
            by_cases hji : j < i
            · have hji' : (j : Int) < (i : Int) := by omega
              have hj0 : (0 : Int) ≤ (j : Int) := by omega
              have hjm : (j : Int) < (m : Int) := by omega
              have hjl : j < pl.length := by omega
              go_upto_region 9 with fail
              refine Dr.wp_region_plan 9 [] (.q [0, 1, 2, 3, 4, 5, 6, 7, 8] .done) (by kernel_rfl) (by kernel_rfl) ?_
              have hb2 := hb1.drew
              have hB2 := hB1.ext (ext_drew wr)
              clear hb1 hB1
              generalize World.drew _ = W2 at *
              obtain ⟨bv', ov', eA, -, e0⟩ := (hv.ext hb2).at1 hil rfl
              cases eA
              obtain ⟨bv', ov', eA, -, e1⟩ := (hv.ext hb2).at1 hjl rfl
              cases eA
              have q0 := Dr.cell0 e0
              have q1 := Dr.cell0 e1
              refine Dr.plan_q (l := [_, _, _, _, _, _, _, _, _]) rfl (fun K hK => ?_)
              iterate 9 (go_big_quiet_step (fail))
              refine wpQuiet_nil (hK _ ?_); clear hK K
              refine Dr.plan_end rfl ?_
              clear q0 q1 e0 e1
              cases hq : (pl[j] == pl[i])
              · have Hn := Lib.hid (show ∀ k (hk : k < i), k < j + 1 → pl[k]'(by omega) ≠ pl[i] by
                  intro k hk hkj
                  by_cases e : k = j
                  · subst e; simpa using hq
                  · exact Hj.out k hk (by omega))
                go_wp2
                go_roundw
                case rel => exact ⟨j + 1, by go_num, by omega, Hn, hb2, hB2⟩
                case measure => simp [intOf]; omega
              · have Hr := Lib.hid (Bad3.out j hji (by simpa using hq))
                go_wp2
                go_ret
                exact ⟨ret_congr (bool_congr Hr.out.symm), hb2⟩
            · obtain rfl : j = i := by omega
              have Hn := Lib.hid (show ∀ i' (h : i' < pl.length), i' < j + 1 → (0 ≤ pl[i'] ∧ pl[i'] < y.boxes.length) ∧ y.needs.getD i' 0 ≤ y.boxes.getD (pl[i']).toNat 0 ∧ ∀ k (hk : k < i'), pl[k]'(by omega) ≠ pl[i'] by
                intro i' hi' hlt'
                by_cases e : i' = j
                · subst e
                  refine ⟨by rw [Hp.out, H1.out]; omega, Hrm.out, fun k hk => Hj.out k hk hk⟩
                · exact Hk.out i' hi' (by omega))
              go_wp2
              go_roundw
              case rel => exact ⟨j + 1, by go_num, by omega, Hn, hb1, hB1⟩
              case measure => simp [intOf]; omega
      · have C1 := Lib.hid (In_f hx)
        have Hr := Lib.hid (Bad1.out (fun h => hx (by rw [H1.out] at h; omega)))
        refine Dr.plan_e rfl (by rfl) (fun K hK => ?_)
        go_wp2_with fail
        refine (C1.out _).mono ?_; rintro e w5 ⟨rfl, rfl⟩
        refine hK _ _ (Dr.Bel.refl _ _) ?_; clear hK K
        clear hx
        refine Dr.plan_q (l := [_, _, _, _, _, _, _, _, _, _, _, _, _, _, _, _, _]) rfl (fun K hK => ?_)
        iterate 17 (go_big_quiet_step (fail))
        refine wpQuiet_nil (hK _ ?_); clear hK K
        refine Dr.plan_end rfl ?_
        clear q0 q1 q2 q3
        go_wp2
        go_ret
        exact ⟨ret_congr (bool_congr Hr.out.symm), hb1⟩
    · obtain rfl : i = m := by omega
      go_wp2
      go_loopw [7] (fun x wr => ∃ j : Nat, x = .int .i64 j ∧ j ≤ n3 ∧ Hid (∀ p ∈ y.foes.take j, ∀ (h1 : p.1.toNat < pl.length) (h2 : p.2.toNat < pl.length), ¬ (-1 ≤ pl[p.1.toNat] - pl[p.2.toNat] ∧ pl[p.1.toNat] - pl[p.2.toNat] ≤ 1)) ∧ Below w.heap.size w wr ∧ Blk wr w.heap.size 57 [.slice A1 n1 c1, .slice A2 n2 c2, .slice A3 n3 c3]) (fun x _ => n3 - (intOf x).toNat)
      case atStart => exact ⟨0, rfl, by omega, Lib.hid (by simp), hb, hB⟩
      case round =>
        clear hb hB
        obtain ⟨j, rfl, hj, Hj, hb, hB⟩ := hrel
        have x2 : wr.cell? ⟨w.heap.size, 2, none⟩ = _ := hB.cell rfl
        by_cases hjl : j < n3
        · have hjl' : (j : Int) < (n3 : Int) := by omega
          have hj0 : (0 : Int) ≤ (j : Int) := by omega
          have hjf : j < y.foes.length := by rw [H3.out]; exact hjl
          have hmem : y.foes[j] ∈ y.foes := List.getElem_mem hjf
          have hk6 := K6.out _ hmem
          obtain ⟨a, ha⟩ := Int.eq_ofNat_of_zero_le hk6.1.1
          obtain ⟨b, hb'⟩ := Int.eq_ofNat_of_zero_le hk6.2.1.1
          have hst : ∀ p ∈ y.foes.take (j + 1), p ∈ y.foes.take j ∨ p = y.foes[j] := fun p hp => by
            rw [List.take_succ_eq_append_getElem hjf, List.mem_append, List.mem_singleton] at hp
            exact hp
          have ea : (y.foes[j]).1.toNat = a := by rw [ha]; simp
          have eb : (y.foes[j]).2.toNat = b := by rw [hb']; simp
          have bad : ∀ (h1 : a < pl.length) (h2 : b < pl.length), (-1 ≤ pl[a] - pl[b] ∧ pl[a] - pl[b] ≤ 1) → res = false := fun h1 h2 h => Bad.out (fun hr => by
            have := hr.foe _ hmem (by rw [ea]; exact h1) (by rw [eb]; exact h2)
            simp only [ea, eb] at this
            exact this h)
          have good : (∀ (h1 : a < pl.length) (h2 : b < pl.length), ¬ (-1 ≤ pl[a] - pl[b] ∧ pl[a] - pl[b] ≤ 1)) → ∀ p ∈ y.foes.take (j + 1), ∀ (h1 : p.1.toNat < pl.length) (h2 : p.2.toNat < pl.length), ¬ (-1 ≤ pl[p.1.toNat] - pl[p.2.toNat] ∧ pl[p.1.toNat] - pl[p.2.toNat] ≤ 1) := fun h p hp h1 h2 => by
            rcases hst p hp with h' | rfl
            · exact Hj.out p h' h1 h2
            · have := h (by rw [← ea]; exact h1) (by rw [← eb]; exact h2)
              simp only [ea, eb]
              exact this
          have HBad := Lib.hid bad
          have HGood := Lib.hid good
          go_upto_region 14 with fail
          clear x2
          refine Dr.wp_region_plan 14 [] (.q [0, 1, 2, 3, 4, 5, 6, 7, 8, 9, 10, 11, 12, 13] .done) (by kernel_rfl) (by kernel_rfl) ?_
          have hb1 := hb.drew
          have hB1 := hB.ext (ext_drew wr)
          clear hb hB
          generalize World.drew _ = W at *
          obtain ⟨bf, of, rfl, -, e0, e1⟩ := (hd.f.ext hb1).at2 hjf rfl
          rw [ha] at e0
          rw [hb'] at e1
          have q0 := Dr.cell0 (hB1.cell (i := 2) rfl)
          have q1 := Dr.cell0 e0
          have q2 := Dr.cell0 e1
          clear hst ea eb bad good hmem hk6 ha hb' e0 e1
          refine Dr.plan_q (l := [_, _, _, _, _, _, _, _, _, _, _, _, _, _]) rfl (fun K hK => ?_)
          iterate 14 (go_big_quiet_step (fail))
          refine wpQuiet_nil (hK _ ?_); clear hK K
          refine Dr.plan_end rfl ?_
          clear q0 q1 q2
          go_upto_region 15 with fail
          refine Dr.wp_region_plan 22 [] (.q [0, 1, 2, 3, 4, 5, 6, 7, 8, 9, 10, 11, 12, 13, 14, 15, 16, 17, 18, 19] (.e1 20 (.q [21] .done))) (by kernel_rfl) (by kernel_rfl) ?_
          have hb2 := hb1.drew
          have hB2 := hB1.ext (ext_drew W)
          clear hb1 hB1
          generalize World.drew _ = W2 at *
          by_cases ham : a < i
          · by_cases hbm : b < i
            · have ham' : (a : Int) < (i : Int) := by omega
              have hbm' : (b : Int) < (i : Int) := by omega
              have ha0 : (0 : Int) ≤ (a : Int) := by omega
              have hb0 : (0 : Int) ≤ (b : Int) := by omega
              have hal : a < pl.length := by rw [Hm.out]; exact ham
              have hbl : b < pl.length := by rw [Hm.out]; exact hbm
              have xa := (Hk.out a hal ham).1
              have xb := (Hk.out b hbl hbm).1
              rw [H1.out] at xa xb
              obtain ⟨bv, ov, rfl, -, e0⟩ := (hv.ext hb2).at1 hal rfl
              obtain ⟨bv', ov', eA, -, e1⟩ := (hv.ext hb2).at1 hbl rfl
              cases eA
              have hbd := HBad.out hal hbl
              have hgd : ¬ (-1 ≤ pl[a] - pl[b] ∧ pl[a] - pl[b] ≤ 1) → _ := fun h => HGood.out (fun _ _ => h)
              have Hbd := Lib.hid hbd
              have Hgd := Lib.hid hgd
              clear hbd hgd
              have q0 := Dr.cell0 e0
              have q1 := Dr.cell0 e1
              generalize pl[a] = va at *
              generalize pl[b] = vb at *
              refine Dr.plan_q (l := [_, _, _, _, _, _, _, _, _, _, _, _, _, _, _, _, _, _, _, _]) rfl (fun K hK => ?_)
              iterate 20 (go_big_quiet_step (fail))
              refine wpQuiet_nil (hK _ ?_); clear hK K
              refine Dr.plan_e rfl (by rfl) (fun K hK => ?_)
              go_wp2_with fail
              refine (In_any _ _ _ _).mono ?_; rintro e w5 ⟨rfl, rfl⟩
              refine hK _ _ (Dr.Bel.refl _ _) ?_; clear hK K
              by_cases hin : -1 ≤ va - vb ∧ va - vb ≤ 1
              · rw [decide_eq_true hin]
                have Hr := Lib.hid (Hbd.out hin)
                refine Dr.plan_q (l := [_]) rfl (fun K hK => ?_)
                iterate 1 (go_big_quiet_step (fail))
                refine wpQuiet_nil (hK _ ?_); clear hK K
                refine Dr.plan_end rfl ?_
                clear q0 q1 hin
                go_wp2
                go_ret
                exact ⟨ret_congr (bool_congr Hr.out.symm), hb2⟩
              · rw [decide_eq_false hin]
                have Hn := Lib.hid (Hgd.out hin)
                refine Dr.plan_q (l := [_]) rfl (fun K hK => ?_)
                iterate 1 (go_big_quiet_step (fail))
                refine wpQuiet_nil (hK _ ?_); clear hK K
                refine Dr.plan_end rfl ?_
                clear q0 q1 hin
                go_wp2
                go_roundw
                case rel => exact ⟨j + 1, by go_num, by omega, Hn, hb2, hB2⟩
                case measure => simp [intOf]; omega
            · have hbm' : ¬ (b : Int) < (i : Int) := by omega
              have Hn := Lib.hid (HGood.out (fun _ h2 => absurd (by rw [← Hm.out]; exact h2) hbm))
              refine Dr.plan_q (l := [_, _, _, _, _, _, _, _, _, _, _, _, _, _, _, _, _, _, _, _]) rfl (fun K hK => ?_)
              iterate 20 (go_big_quiet_step (fail))
              refine wpQuiet_nil (hK _ ?_); clear hK K
              refine Dr.plan_e_skip rfl (by rfl) ?_
              go_frame
              refine Dr.plan_q (l := [_]) rfl (fun K hK => ?_)
              iterate 1 (go_big_quiet_step (fail))
              refine wpQuiet_nil (hK _ ?_); clear hK K
              refine Dr.plan_end rfl ?_
              go_wp2
              go_roundw
              case rel => exact ⟨j + 1, by go_num, by omega, Hn, hb2, hB2⟩
              case measure => simp [intOf]; omega
          · have ham' : ¬ (a : Int) < (i : Int) := by omega
            have Hn := Lib.hid (HGood.out (fun h1 _ => absurd (by rw [← Hm.out]; exact h1) ham))
            refine Dr.plan_q (l := [_, _, _, _, _, _, _, _, _, _, _, _, _, _, _, _, _, _, _, _]) rfl (fun K hK => ?_)
            iterate 20 (go_big_quiet_step (fail))
            refine wpQuiet_nil (hK _ ?_); clear hK K
            refine Dr.plan_e_skip rfl (by rfl) ?_
            go_frame
            refine Dr.plan_q (l := [_]) rfl (fun K hK => ?_)
            iterate 1 (go_big_quiet_step (fail))
            refine wpQuiet_nil (hK _ ?_); clear hK K
            refine Dr.plan_end rfl ?_
            go_wp2
            go_roundw
            case rel => exact ⟨j + 1, by go_num, by omega, Hn, hb2, hB2⟩
            case measure => simp [intOf]; omega
        · obtain rfl : j = n3 := by omega
          have Hr := Lib.hid (show res = true from Hi.out.2 ⟨fun i' h => (Hk.out i' h (by rw [Hm.out] at h; exact h)).1, fun i' h => (Hk.out i' h (by rw [Hm.out] at h; exact h)).2.1, fun i' k h hk => (Hk.out i' h (by rw [Hm.out] at h; exact h)).2.2 k hk, by
            have := Hj.out
            rw [List.take_of_length_le (by rw [H3.out]; omega)] at this
            exact this⟩)
          go_wp2
          go_ret
          exact ⟨ret_congr (bool_congr Hr.out.symm), hb⟩
end Go.Proofs.Ytopfhinnamhoiaa

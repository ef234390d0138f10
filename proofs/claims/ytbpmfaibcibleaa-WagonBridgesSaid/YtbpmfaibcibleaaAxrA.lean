/- Walk: Axles, of the document. (Printed by mk_axra.py.) -/
import Derived.Test.YtbpmfaibcibleaaLhpJ
namespace Go.Proofs.Ytbpmfaibcibleaa
open Go.RowKit Go.Bs Go.Wg Go.Pl Go.Sort
set_option maxRecDepth 100000 in
set_option maxHeartbeats 4000000 in
theorem AxlesR_any (A : Option Addr) (n c : Nat) (h ca em re ax dk : Int) (L : List Int) (T : Option Addr) (m cT : Nat) (ts : List Th) (R : Option Addr) (k cR : Nat) (rs : List RwV) (w : World)
    (hm : ts.length = m) (ht : Cells w T 4 Th.enc ts) (hk : rs.length = k) (hM : RwM w R rs) (hO : checkE ⟨L, h, ca, em, re, ax, dk⟩ ts = 0) (hR : rightB ⟨L, h, ca, em, re, ax, dk⟩ ts (rows rs) = true) :
    Calls Try.prog 55 #[.agg #[.slice A n c, .int .i64 h, .int .i64 ca, .int .i64 em, .int .i64 re, .int .i64 ax, .int .i64 dk], .slice T m cT, .slice R k cR] w fun e w' => e = .returned (.tuple #[.int .i64 (axFront ⟨L, h, ca, em, re, ax, dk⟩ ts (rows rs)), .int .i64 (axRear ⟨L, h, ca, em, re, ax, dk⟩ ts (rows rs))]) ∧ Below w.heap.size w w' := by
  have HO := Lib.hid (checkE_zero.1 hO)
  have HR := Lib.hid (right_iff.1 hR)
  have Hm := Lib.hid hm
  have Hk := Lib.hid hk
  have HM := Lib.hid hM
  have HT := Lib.hid ht
  have Hmom := Lib.hid (fun k => momL_bd HO.out.2.2 HO.out.2.1 (p := (rows rs).take k) (fun l hl => HR.out.inR l (List.mem_of_mem_take hl)))
  have hk6 : k ≤ 6 := by
    have h1 := HR.out.many
    rw [rows_len, hk] at h1
    have h2 := HO.out.1.many
    simp only at h1 h2
    omega
  have hm14 : m ≤ 14 := by have := HO.out.2.1; omega
  have Hrear := Lib.hid (show axRear ⟨L, h, ca, em, re, ax, dk⟩ ts (rows rs) = (momL ts (rows rs) + re - 1) / re + (em + 1) / 2 from rfl)
  have Hfront := Lib.hid (show axFront ⟨L, h, ca, em, re, ax, dk⟩ ts (rows rs) = em + massL ts (rows rs).flatten - axRear ⟨L, h, ca, em, re, ax, dk⟩ ts (rows rs) from rfl)
  generalize axFront ⟨L, h, ca, em, re, ax, dk⟩ ts (rows rs) = FR at *
  have hre := HO.out.1.rear
  have hem := HO.out.1.empty
  simp only at hre hem
  generalize axRear ⟨L, h, ca, em, re, ax, dk⟩ ts (rows rs) = RE at *
  clear hm hk hM ht hO hR
  have hb := ext_alloc w (.cells #[.slice A n c, .int .i64 h, .int .i64 ca, .int .i64 em, .int .i64 re, .int .i64 ax, .int .i64 dk] 37)
  have hP := Blk.new w 37 [.slice A n c, .int .i64 h, .int .i64 ca, .int .i64 em, .int .i64 re, .int .i64 ax, .int .i64 dk]
  go_enter Try.func55, Try.ntmps55
  go_upto_region 1 with fail
  change Blk (w.alloc (.cells #[.slice A n c, .int .i64 h, .int .i64 ca, .int .i64 em, .int .i64 re, .int .i64 ax, .int .i64 dk] 37)) _ _ _ at hP
  change Below w.heap.size w (w.alloc (.cells #[.slice A n c, .int .i64 h, .int .i64 ca, .int .i64 em, .int .i64 re, .int .i64 ax, .int .i64 dk] 37)) at hb
  generalize w.alloc (.cells #[.slice A n c, .int .i64 h, .int .i64 ca, .int .i64 em, .int .i64 re, .int .i64 ax, .int .i64 dk] 37) = W0 at *
  go_wp2
  go_loopw [8, 9, 10, 11, 12] (fun s t _ _ _ wr => ∃ z : Nat, t = .int .i64 z ∧ z ≤ k ∧ s = .int .i64 (momL ts ((rows rs).take z)) ∧ Below W0.heap.size W0 wr) (fun _ t _ _ _ _ => k - (intOf t).toNat)
  case atStart => exact ⟨0, rfl, by omega, by rfl, Below.refl _ _⟩
  case round =>
    obtain ⟨z, rfl, hz, rfl, hbr⟩ := hrel
    have hmk := Hmom.out z
    rw [List.length_take, rows_len, Hk.out] at hmk
    have hmk2 : 0 ≤ momL ts ((rows rs).take z) ∧ momL ts ((rows rs).take z) ≤ 600000000000 := by omega
    clear hmk
    by_cases hlt : z < k
    · have hlt' : (z : Int) < (k : Int) := by omega
      have hk1 : z < rs.length := by rw [Hk.out]; exact hlt
      have hM1 := HM.out.ext (ext_trans hb hbr)
      obtain ⟨b, off, rfl, -, c0⟩ := hM1.hdr.at1 hk1 rfl
      have hrow := hM1.row _ (List.getElem_mem hk1)
      have hin := HR.out.inR rs[z].r (List.mem_map.2 ⟨_, List.getElem_mem hk1, rfl⟩)
      have Hs := Lib.hid (show momL ts ((rows rs).take (z + 1)) = momL ts ((rows rs).take z) + momR ts rs[z].r 0 by
        rw [List.take_succ_eq_append_getElem (by rw [rows_len]; exact hk1), momL_snoc]; simp [rows])
      have Hin := Lib.hid hin.1
      have hlen : rs[z].r.length ≤ 14 := by have := hin.2; have := Hm.out; omega
      clear hin hM1
      generalize momL ts ((rows rs).take z) = M0 at *
      generalize rs[z] = x at *
      obtain ⟨xr, xA, xc⟩ := x
      simp only at *
      generalize hxl : xr.length = e1 at *
      have Hxl := Lib.hid hxl
      clear hxl
      obtain ⟨wo, hwo⟩ : ∃ wo : World, wo = wr := ⟨_, rfl⟩
      subst hwo
      go_wp2
      go_loopw [8, 10, 11, 12] (fun s a t _ wi => ∃ q : Nat, t = .int .i64 q ∧ q ≤ e1 ∧ s = .int .i64 (M0 + momR ts (xr.take q) 0) ∧ a = .int .i64 (longL ts (xr.take q)) ∧ Below wo.heap.size wo wi) (fun _ _ t _ _ => e1 - (intOf t).toNat)
      case atStart => exact ⟨0, rfl, by omega, by simp [momR], by simp [longL, isum], Below.refl _ _⟩
      case round =>
        obtain ⟨q, rfl, hq, rfl, rfl, hbi⟩ := hrel
        have hmq := momR_bd HO.out.2.2 (xr.take q) 0 (fun y hy => Hin.out y (List.mem_of_mem_take hy)) (by omega) (by rw [List.length_take, Hxl.out]; omega)
        rw [List.length_take, Hxl.out] at hmq
        have hlq := longL_take_bd HO.out.2.2 Hin.out q
        rw [Hxl.out] at hlq
        have hmq2 : 0 ≤ momR ts (xr.take q) 0 ∧ momR ts (xr.take q) 0 ≤ 100000000000 := by omega
        have hlq2 : 0 ≤ longL ts (xr.take q) ∧ longL ts (xr.take q) ≤ 28000 := by omega
        clear hmq hlq
        have c1 := Go.Bs.cell_ext c0 hbi
        by_cases hql : q < e1
        · have hql' : (q : Int) < (e1 : Int) := by omega
          have hq1 : q < xr.length := by rw [Hxl.out]; exact hql
          obtain ⟨b3, off3, rfl, -, e0⟩ := (hrow.ext hbi).at1 hq1 rfl
          have hx := Hin.out _ (List.getElem_mem hq1)
          obtain ⟨j, hj⟩ : ∃ j : Nat, xr[q] = j := ⟨xr[q].toNat, by omega⟩
          have hjt : j < ts.length := by omega
          have Hl := Lib.hid (longL_succ (ts := ts) hq1)
          have Hmo := Lib.hid (show momR ts (xr.take (q + 1)) 0 = momR ts (xr.take q) 0 + (thAt ts xr[q]).mass * (2 * (longL ts (xr.take q)) + (thAt ts xr[q]).long) by
            rw [List.take_succ_eq_append_getElem hq1, momR_snoc, Int.zero_add])
          rw [hj] at e0 hx Hl Hmo
          rw [thAt_eq hjt] at Hl Hmo
          obtain ⟨b4, off4, rfl, -, d0, d1, d2, d3⟩ := (HT.out.ext (ext_trans hb (ext_trans hbr hbi))).at4 hjt rfl
          have hto := HO.out.2.2 _ (List.getElem_mem hjt)
          have htl := hto.long
          have htm := hto.mass
          have hjm' : (j : Int) < (m : Int) := by have := Hm.out; omega
          clear hto hj hx
          generalize ts[j].long = lo at *
          generalize ts[j].mass = ma at *
          generalize ts[j].high = hi at *
          generalize ts[j].need = ne at *
          generalize momR ts (xr.take q) 0 = m0 at *
          generalize longL ts (xr.take q) = L0 at *
          have hmul := mul_bd htm.1 htm.2 (show 0 ≤ 2 * L0 + lo by omega) (show 2 * L0 + lo ≤ 60000 by omega)
          have hN := Blk.new wr 62 [.int .i64 lo, .int .i64 hi, .int .i64 ma, .int .i64 ne]
          have hxN := ext_alloc wr (.cells #[.int .i64 lo, .int .i64 hi, .int .i64 ma, .int .i64 ne] 62)
          go_upto_region 10 with fail
          change Blk (wr.alloc (.cells #[.int .i64 lo, .int .i64 hi, .int .i64 ma, .int .i64 ne] 62)) _ _ _ at hN
          change Below wr.heap.size wr (wr.alloc (.cells #[.int .i64 lo, .int .i64 hi, .int .i64 ma, .int .i64 ne] 62)) at hxN
          clear c1 e0 d0 d1 d2 d3
          generalize wr.alloc (.cells #[.int .i64 lo, .int .i64 hi, .int .i64 ma, .int .i64 ne] 62) = W5 at *
          have hb6 := ext_trans hbi hxN
          have n0 : W5.cell? ⟨wr.heap.size, 0, none⟩ = _ := hN.cell rfl
          have n2 : W5.cell? ⟨wr.heap.size, 2, none⟩ = _ := hN.cell rfl
          have hNl := hN.lt
          clear hN hxN hbi
          go_wp2
          go_roundw
          case rel => exact ⟨q + 1, by go_num, by omega, by rw [Hmo.out]; exact int_congr (by omega), by rw [Hl.out], hb6⟩
          case measure => simp [intOf]; omega
        · have hqm : xr.take q = xr := List.take_of_length_le (by rw [Hxl.out]; omega)
          rw [hqm]
          rw [hqm] at hmq2
          clear hqm
          generalize momR ts xr 0 = m0 at *
          have hb7 := ext_trans hbr hbi
          clear hbi
          go_wp2
          go_roundw
          case rel => exact ⟨z + 1, by go_num, by omega, by rw [Hs.out], hb7⟩
          case measure => simp [intOf]; omega
    · have hkn : (rows rs).take z = rows rs := List.take_of_length_le (by rw [rows_len, Hk.out]; omega)
      rw [hkn]
      rw [hkn] at hmk2
      clear hkn
      replace hb := ext_trans hb hbr
      replace hP := hP.ext hbr
      clear hbr
      go_upto_region 12 with fail
      have hx0 : 0 ≤ momL ts (rows rs) + re - 1 := by omega
      have hD0 : 0 ≤ (momL ts (rows rs) + re - 1) / re := Int.ediv_nonneg hx0 (by omega)
      have hD1 : (momL ts (rows rs) + re - 1) / re ≤ momL ts (rows rs) + re - 1 := Int.ediv_le_self _ hx0
      have hrr : 0 < re := by omega
      have hin : InR m (rows rs).flatten := fun y hy => by rw [← Hm.out]; exact mem_upto.1 (HR.out.perm.mem_iff.1 hy)
      have Hin := Lib.hid hin
      have hfl : (rows rs).flatten.length ≤ 14 := by
        have h1 := HR.out.perm.length_eq
        rw [upto_len] at h1
        have := Hm.out
        omega
      have Hfl := Lib.hid hfl
      have hml := massL_bd HO.out.2.2 (by rw [Hm.out]; exact hin)
      have hml2 : 0 ≤ massL ts (rows rs).flatten ∧ massL ts (rows rs).flatten ≤ 1400000 := by omega
      clear hin hml hfl hx0
      generalize momL ts (rows rs) = M at *
      refine Dr.wp_region_plan 14 [] (.q [0, 1, 2, 3, 4, 5, 6, 7, 8, 9, 10, 11, 12, 13] .done) (by kernel_rfl) (by kernel_rfl) ?_
      replace hb := hb.drew
      replace hP := hP.drew
      generalize World.drew _ = W5 at *
      have q3 := Dr.cell0 (hP.cell (i := 3) rfl)
      have q4 := Dr.cell0 (hP.cell (i := 4) rfl)
      with_reducible refine Dr.plan_q (l := [_, _, _, _, _, _, _, _, _, _, _, _, _, _]) (by with_unfolding_all exact rfl) (fun K hK => ?_)
      iterate 14 (go_big_quiet_step (fail))
      refine wpQuiet_nil (hK _ ?_); clear hK K
      clear q3 q4
      refine Dr.plan_end rfl ?_
      generalize (M + re - 1) / re = D at *
      have hre2 : 0 ≤ RE ∧ RE ≤ 700000000000 := by rw [Hrear.out]; omega
      rw [← Hrear.out]
      clear Hrear hD0 hD1
      go_upto_region 13 with fail
      refine Dr.wp_region_plan 12 [] (.q [0, 1, 2, 3, 7, 9] (.e1 4 (.e1 5 (.q [6, 8, 10, 11] .done)))) (by kernel_rfl) (by kernel_rfl) ?_
      replace hb := hb.drew
      replace hP := hP.drew
      generalize World.drew _ = W6 at *
      have q3 := Dr.cell0 (hP.cell (i := 3) rfl)
      with_reducible refine Dr.plan_q (l := [_, _, _, _, _, _]) (by with_unfolding_all exact rfl) (fun K hK => ?_)
      iterate 6 (go_big_quiet_step (fail))
      refine wpQuiet_nil (hK _ ?_); clear hK K
      clear q3
      have CA := Lib.hid (allR_any R k cR rs W6 Hk.out (by omega) (HM.out.ext hb) (by have := Hfl.out; omega))
      have CM := Lib.hid (fun V (hV : Below w.heap.size w V) (A1 : Option Addr) (n1 c1 : Nat) (l : List Int) => fun a b c d => Masses_any T m cT ts A1 n1 c1 l V Hm.out HO.out.2.2 (HT.out.ext hV) a b c d)
      generalize (rows rs).flatten = F at *
      refine Dr.plan_e rfl (by rfl) (fun K hK => ?_)
      go_wp2_with fail
      refine (CA.out).mono ?_; rintro e W7 ⟨v1, rfl, ho, hx⟩
      refine hK _ _ (.of hx) ?_; clear hK K
      obtain ⟨A1, c1, rfl, -, -, hc1⟩ := ho.cells Go.Bs.encI_len
      replace hb := ext_trans hb hx
      have CM1 := Lib.hid (CM.out _ hb A1 F.length c1 F rfl (by have := Hfl.out; omega) Hin.out hc1)
      clear hx ho hc1 CM CA
      generalize massL ts F = MA at *
      refine Dr.plan_e rfl (by rfl) (fun K hK => ?_)
      go_wp2_with fail
      refine (CM1.out).mono ?_; rintro e W8 ⟨rfl, rfl⟩
      refine hK _ _ (.refl _ _) ?_; clear hK K
      with_reducible refine Dr.plan_q (l := [_, _, _, _]) (by with_unfolding_all exact rfl) (fun K hK => ?_)
      iterate 4 (go_big_quiet_step (fail))
      refine wpQuiet_nil (hK _ ?_); clear hK K
      refine Dr.plan_end rfl ?_
      rw [← Hfront.out]
      go_wp2
      go_ret2
      exact ⟨rfl, hb⟩
end Go.Proofs.Ytbpmfaibcibleaa

/- Walks: Axles, Road, Stops. -/
import Derived.Test.YtbpmfaibcibleaaLhpJ
import Derived.Test.YtbpmfaibcibleaaLhpA
import Derived.Test.YtbpmfaibcibleaaWaG
/- Walk: Axles, of the document. (Printed by mk_axra.py.) -/
namespace Go.Proofs.Ytbpmfaibcibleaa
open Go.RowKit Go.Bs Go.Wg Go.Pl Go.Sort
set_option maxRecDepth 100000 in
set_option maxHeartbeats 4000000 in
theorem AxlesR_any (A : Option Addr) (n c : Nat) (h ca em re ax dk : Int) (L : List Int) (T : Option Addr) (m cT : Nat) (ts : List Th) (R : Option Addr) (k cR : Nat) (rs : List RwV) (w : World)
    (hm : ts.length = m) (ht : Cells w T 4 Th.enc ts) (hk : rs.length = k) (hM : RwM w R rs) (hO : checkE ⟨L, h, ca, em, re, ax, dk⟩ ts = 0) (hR : rightB ⟨L, h, ca, em, re, ax, dk⟩ ts (rows rs) = true) :
    Calls Try.prog 55 #[.agg #[.slice A n c, .int .i64 h, .int .i64 ca, .int .i64 em, .int .i64 re, .int .i64 ax, .int .i64 dk], .slice T m cT, .slice R k cR] w fun e w' => e = .returned (.tuple #[.int .i64 (axFront ⟨L, h, ca, em, re, ax, dk⟩ ts (rows rs)), .int .i64 (axRear ⟨L, h, ca, em, re, ax, dk⟩ ts (rows rs))]) ∧ Below w.heap.size w w' := by
  have HO := Lib.hid (checkE_zero.1 hO)
  have HR := Lib.hid (right_iff.1 hR)
  have Hm := Lib.hid hm
  have Hk := Lib.hid hk
  have HM := Lib.hid hM
  have HT := Lib.hid ht
  have Hmom := Lib.hid (fun k => momL_bd HO.out.2.2 HO.out.2.1 (p := (rows rs).take k) (fun l hl => HR.out.inR l (List.mem_of_mem_take hl)))
  have hk6 : k ≤ 6 := by
    have h1 := HR.out.many
    rw [rows_len, hk] at h1
    have h2 := HO.out.1.many
    simp only at h1 h2
    omega
  have hm14 : m ≤ 14 := by have := HO.out.2.1; omega
  have Hrear := Lib.hid (show axRear ⟨L, h, ca, em, re, ax, dk⟩ ts (rows rs) = (momL ts (rows rs) + re - 1) / re + (em + 1) / 2 from rfl)
  have Hfront := Lib.hid (show axFront ⟨L, h, ca, em, re, ax, dk⟩ ts (rows rs) = em + massL ts (rows rs).flatten - axRear ⟨L, h, ca, em, re, ax, dk⟩ ts (rows rs) from rfl)
  generalize axFront ⟨L, h, ca, em, re, ax, dk⟩ ts (rows rs) = FR at *
  have hre := HO.out.1.rear
  have hem := HO.out.1.empty
  simp only at hre hem
  generalize axRear ⟨L, h, ca, em, re, ax, dk⟩ ts (rows rs) = RE at *
  clear hm hk hM ht hO hR
  have hb := ext_alloc w (.cells #[.slice A n c, .int .i64 h, .int .i64 ca, .int .i64 em, .int .i64 re, .int .i64 ax, .int .i64 dk] 37)
  have hP := Blk.new w 37 [.slice A n c, .int .i64 h, .int .i64 ca, .int .i64 em, .int .i64 re, .int .i64 ax, .int .i64 dk]
  go_enter Try.func55, Try.ntmps55
  go_upto_region 1 with fail
  change Blk (w.alloc (.cells #[.slice A n c, .int .i64 h, .int .i64 ca, .int .i64 em, .int .i64 re, .int .i64 ax, .int .i64 dk] 37)) _ _ _ at hP
  change Below w.heap.size w (w.alloc (.cells #[.slice A n c, .int .i64 h, .int .i64 ca, .int .i64 em, .int .i64 re, .int .i64 ax, .int .i64 dk] 37)) at hb
  generalize w.alloc (.cells #[.slice A n c, .int .i64 h, .int .i64 ca, .int .i64 em, .int .i64 re, .int .i64 ax, .int .i64 dk] 37) = W0 at *
  go_wp2
  go_loopw [8, 9, 10, 11, 12] (fun s t _ _ _ wr => ∃ z : Nat, t = .int .i64 z ∧ z ≤ k ∧ s = .int .i64 (momL ts ((rows rs).take z)) ∧ Below W0.heap.size W0 wr) (fun _ t _ _ _ _ => k - (intOf t).toNat)
  case atStart => exact ⟨0, rfl, by omega, by rfl, Below.refl _ _⟩
  case round =>
    obtain ⟨z, rfl, hz, rfl, hbr⟩ := hrel
    have hmk := Hmom.out z
    rw [List.length_take, rows_len, Hk.out] at hmk
    have hmk2 : 0 ≤ momL ts ((rows rs).take z) ∧ momL ts ((rows rs).take z) ≤ 600000000000 := by omega
    clear hmk
    by_cases hlt : z < k
    · have hlt' : (z : Int) < (k : Int) := by omega
      have hk1 : z < rs.length := by rw [Hk.out]; exact hlt
      have hM1 := HM.out.ext (ext_trans hb hbr)
      obtain ⟨b, off, rfl, -, c0⟩ := hM1.hdr.at1 hk1 rfl
      have hrow := hM1.row _ (List.getElem_mem hk1)
      have hin := HR.out.inR rs[z].r (List.mem_map.2 ⟨_, List.getElem_mem hk1, rfl⟩)
      have Hs := Lib.hid (show momL ts ((rows rs).take (z + 1)) = momL ts ((rows rs).take z) + momR ts rs[z].r 0 by
        rw [List.take_succ_eq_append_getElem (by rw [rows_len]; exact hk1), momL_snoc]; simp [rows])
      have Hin := Lib.hid hin.1
      have hlen : rs[z].r.length ≤ 14 := by have := hin.2; have := Hm.out; omega
      clear hin hM1
      generalize momL ts ((rows rs).take z) = M0 at *
      generalize rs[z] = x at *
      obtain ⟨xr, xA, xc⟩ := x
      simp only at *
      generalize hxl : xr.length = e1 at *
      have Hxl := Lib.hid hxl
      clear hxl
      obtain ⟨wo, hwo⟩ : ∃ wo : World, wo = wr := ⟨_, rfl⟩
      subst hwo
      go_wp2
      go_loopw [8, 10, 11, 12] (fun s a t _ wi => ∃ q : Nat, t = .int .i64 q ∧ q ≤ e1 ∧ s = .int .i64 (M0 + momR ts (xr.take q) 0) ∧ a = .int .i64 (longL ts (xr.take q)) ∧ Below wo.heap.size wo wi) (fun _ _ t _ _ => e1 - (intOf t).toNat)
      case atStart => exact ⟨0, rfl, by omega, by simp [momR], by simp [longL, isum], Below.refl _ _⟩
      case round =>
        obtain ⟨q, rfl, hq, rfl, rfl, hbi⟩ := hrel
        have hmq := momR_bd HO.out.2.2 (xr.take q) 0 (fun y hy => Hin.out y (List.mem_of_mem_take hy)) (by omega) (by rw [List.length_take, Hxl.out]; omega)
        rw [List.length_take, Hxl.out] at hmq
        have hlq := longL_take_bd HO.out.2.2 Hin.out q
        rw [Hxl.out] at hlq
        have hmq2 : 0 ≤ momR ts (xr.take q) 0 ∧ momR ts (xr.take q) 0 ≤ 100000000000 := by omega
        have hlq2 : 0 ≤ longL ts (xr.take q) ∧ longL ts (xr.take q) ≤ 28000 := by omega
        clear hmq hlq
        have c1 := Go.Bs.cell_ext c0 hbi
        by_cases hql : q < e1
        · have hql' : (q : Int) < (e1 : Int) := by omega
          have hq1 : q < xr.length := by rw [Hxl.out]; exact hql
          obtain ⟨b3, off3, rfl, -, e0⟩ := (hrow.ext hbi).at1 hq1 rfl
          have hx := Hin.out _ (List.getElem_mem hq1)
          obtain ⟨j, hj⟩ : ∃ j : Nat, xr[q] = j := ⟨xr[q].toNat, by omega⟩
          have hjt : j < ts.length := by omega
          have Hl := Lib.hid (longL_succ (ts := ts) hq1)
          have Hmo := Lib.hid (show momR ts (xr.take (q + 1)) 0 = momR ts (xr.take q) 0 + (thAt ts xr[q]).mass * (2 * (longL ts (xr.take q)) + (thAt ts xr[q]).long) by
            rw [List.take_succ_eq_append_getElem hq1, momR_snoc, Int.zero_add])
          rw [hj] at e0 hx Hl Hmo
          rw [thAt_eq hjt] at Hl Hmo
          obtain ⟨b4, off4, rfl, -, d0, d1, d2, d3⟩ := (HT.out.ext (ext_trans hb (ext_trans hbr hbi))).at4 hjt rfl
          have hto := HO.out.2.2 _ (List.getElem_mem hjt)
          have htl := hto.long
          have htm := hto.mass
          have hjm' : (j : Int) < (m : Int) := by have := Hm.out; omega
          clear hto hj hx
          generalize ts[j].long = lo at *
          generalize ts[j].mass = ma at *
          generalize ts[j].high = hi at *
          generalize ts[j].need = ne at *
          generalize momR ts (xr.take q) 0 = m0 at *
          generalize longL ts (xr.take q) = L0 at *
          have hmul := mul_bd htm.1 htm.2 (show 0 ≤ 2 * L0 + lo by omega) (show 2 * L0 + lo ≤ 60000 by omega)
          have hN := Blk.new wr 62 [.int .i64 lo, .int .i64 hi, .int .i64 ma, .int .i64 ne]
          have hxN := ext_alloc wr (.cells #[.int .i64 lo, .int .i64 hi, .int .i64 ma, .int .i64 ne] 62)
          go_upto_region 10 with fail
          change Blk (wr.alloc (.cells #[.int .i64 lo, .int .i64 hi, .int .i64 ma, .int .i64 ne] 62)) _ _ _ at hN
          change Below wr.heap.size wr (wr.alloc (.cells #[.int .i64 lo, .int .i64 hi, .int .i64 ma, .int .i64 ne] 62)) at hxN
          clear c1 e0 d0 d1 d2 d3
          generalize wr.alloc (.cells #[.int .i64 lo, .int .i64 hi, .int .i64 ma, .int .i64 ne] 62) = W5 at *
          have hb6 := ext_trans hbi hxN
          have n0 : W5.cell? ⟨wr.heap.size, 0, none⟩ = _ := hN.cell rfl
          have n2 : W5.cell? ⟨wr.heap.size, 2, none⟩ = _ := hN.cell rfl
          have hNl := hN.lt
          clear hN hxN hbi
          go_wp2
          go_roundw
          case rel => exact ⟨q + 1, by go_num, by omega, by rw [Hmo.out]; exact int_congr (by omega), by rw [Hl.out], hb6⟩
          case measure => simp [intOf]; omega
        · have hqm : xr.take q = xr := List.take_of_length_le (by rw [Hxl.out]; omega)
          rw [hqm]
          rw [hqm] at hmq2
          clear hqm
          generalize momR ts xr 0 = m0 at *
          have hb7 := ext_trans hbr hbi
          clear hbi
          go_wp2
          go_roundw
          case rel => exact ⟨z + 1, by go_num, by omega, by rw [Hs.out], hb7⟩
          case measure => simp [intOf]; omega
    · have hkn : (rows rs).take z = rows rs := List.take_of_length_le (by rw [rows_len, Hk.out]; omega)
      rw [hkn]
      rw [hkn] at hmk2
      clear hkn
      replace hb := ext_trans hb hbr
      replace hP := hP.ext hbr
      clear hbr
      go_upto_region 12 with fail
      have hx0 : 0 ≤ momL ts (rows rs) + re - 1 := by omega
      have hD0 : 0 ≤ (momL ts (rows rs) + re - 1) / re := Int.ediv_nonneg hx0 (by omega)
      have hD1 : (momL ts (rows rs) + re - 1) / re ≤ momL ts (rows rs) + re - 1 := Int.ediv_le_self _ hx0
      have hrr : 0 < re := by omega
      have hin : InR m (rows rs).flatten := fun y hy => by rw [← Hm.out]; exact mem_upto.1 (HR.out.perm.mem_iff.1 hy)
      have Hin := Lib.hid hin
      have hfl : (rows rs).flatten.length ≤ 14 := by
        have h1 := HR.out.perm.length_eq
        rw [upto_len] at h1
        have := Hm.out
        omega
      have Hfl := Lib.hid hfl
      have hml := massL_bd HO.out.2.2 (by rw [Hm.out]; exact hin)
      have hml2 : 0 ≤ massL ts (rows rs).flatten ∧ massL ts (rows rs).flatten ≤ 1400000 := by omega
      clear hin hml hfl hx0
      generalize momL ts (rows rs) = M at *
      refine Dr.wp_region_plan 14 [] (.q [0, 1, 2, 3, 4, 5, 6, 7, 8, 9, 10, 11, 12, 13] .done) (by kernel_rfl) (by kernel_rfl) ?_
      replace hb := hb.drew
      replace hP := hP.drew
      generalize World.drew _ = W5 at *
      have q3 := Dr.cell0 (hP.cell (i := 3) rfl)
      have q4 := Dr.cell0 (hP.cell (i := 4) rfl)
      with_reducible refine Dr.plan_q (l := [_, _, _, _, _, _, _, _, _, _, _, _, _, _]) (by with_unfolding_all exact rfl) (fun K hK => ?_)
      iterate 14 (go_big_quiet_step (fail))
      refine wpQuiet_nil (hK _ ?_); clear hK K
      clear q3 q4
      refine Dr.plan_end rfl ?_
      generalize (M + re - 1) / re = D at *
      have hre2 : 0 ≤ RE ∧ RE ≤ 700000000000 := by rw [Hrear.out]; omega
      rw [← Hrear.out]
      clear Hrear hD0 hD1
      go_upto_region 13 with fail
      refine Dr.wp_region_plan 12 [] (.q [0, 1, 2, 3, 7, 9] (.e1 4 (.e1 5 (.q [6, 8, 10, 11] .done)))) (by kernel_rfl) (by kernel_rfl) ?_
      replace hb := hb.drew
      replace hP := hP.drew
      generalize World.drew _ = W6 at *
      have q3 := Dr.cell0 (hP.cell (i := 3) rfl)
      with_reducible refine Dr.plan_q (l := [_, _, _, _, _, _]) (by with_unfolding_all exact rfl) (fun K hK => ?_)
      iterate 6 (go_big_quiet_step (fail))
      refine wpQuiet_nil (hK _ ?_); clear hK K
      clear q3
      have CA := Lib.hid (allR_any R k cR rs W6 Hk.out (by omega) (HM.out.ext hb) (by have := Hfl.out; omega))
      have CM := Lib.hid (fun V (hV : Below w.heap.size w V) (A1 : Option Addr) (n1 c1 : Nat) (l : List Int) => fun a b c d => Masses_any T m cT ts A1 n1 c1 l V Hm.out HO.out.2.2 (HT.out.ext hV) a b c d)
      generalize (rows rs).flatten = F at *
      refine Dr.plan_e rfl (by rfl) (fun K hK => ?_)
      go_wp2_with fail
      refine (CA.out).mono ?_; rintro e W7 ⟨v1, rfl, ho, hx⟩
      refine hK _ _ (.of hx) ?_; clear hK K
      obtain ⟨A1, c1, rfl, -, -, hc1⟩ := ho.cells Go.Bs.encI_len
      replace hb := ext_trans hb hx
      have CM1 := Lib.hid (CM.out _ hb A1 F.length c1 F rfl (by have := Hfl.out; omega) Hin.out hc1)
      clear hx ho hc1 CM CA
      generalize massL ts F = MA at *
      refine Dr.plan_e rfl (by rfl) (fun K hK => ?_)
      go_wp2_with fail
      refine (CM1.out).mono ?_; rintro e W8 ⟨rfl, rfl⟩
      refine hK _ _ (.refl _ _) ?_; clear hK K
      with_reducible refine Dr.plan_q (l := [_, _, _, _]) (by with_unfolding_all exact rfl) (fun K hK => ?_)
      iterate 4 (go_big_quiet_step (fail))
      refine wpQuiet_nil (hK _ ?_); clear hK K
      refine Dr.plan_end rfl ?_
      rw [← Hfront.out]
      go_wp2
      go_ret2
      exact ⟨rfl, hb⟩
end Go.Proofs.Ytbpmfaibcibleaa

/- Walk: Road, RoadFault, Holds. (Printed by mk_lhpf.py.) -/
namespace Go.Wg
def Br.okB (b : Br) : Bool := btw b.limit 0 300000 && btw b.clear 0 600
/-- the error of a road -/
def roadE (bs : List Br) : Int := if 30 < bs.length then 3 else if bs.all Br.okB then 0 else 1
end Go.Wg
namespace Go.Proofs.Ytbpmfaibcibleaa
open Go.RowKit Go.Bs Go.Wg Go.Pl Go.Sort
theorem info101 : (Try.prog.info? 101).map (fun i => (i.zero, i.size, i.bytes)) = some (some (.agg #[.int .i64 0, .int .i64 0]), 2, 16) := by kernel_rfl
theorem et79 : ElemT Try.prog 79 101 2 16 := ElemT.mk Try.underlying79 info101 rfl
set_option maxRecDepth 100000 in
set_option maxHeartbeats 2000000 in
theorem road_own (A : Option Addr) (n c : Nat) (ts : List Br) (w : World) (hn : ts.length = n) (hm : n ≤ 1000000) (ht : Cells w A 2 Br.enc ts) :
    Calls Try.prog 54 #[.slice A n c] w fun e w' => ∃ v, e = .returned v ∧ OwnL w' w.heap.size 101 2 Br.enc v ts ∧ Below w.heap.size w w' := by
  have Hn := Lib.hid hn
  clear hn
  go_enter Try.func54, Try.ntmps54
  go_wp2
  go_loopw [3, 4] (fun v t wr => ∃ k : Nat, t = .int .i64 k ∧ k ≤ n ∧ OwnL wr w.heap.size 101 2 Br.enc v (ts.take k) ∧ Below w.heap.size w wr) (fun _ t _ => n - (intOf t).toNat)
  case atStart => exact ⟨0, rfl, by omega, OwnL.nil, Below.refl _ _⟩
  case round =>
    obtain ⟨k, rfl, hk, ho, hb⟩ := hrel
    by_cases hlt : k < n
    · have hlt' : (k : Int) < n := by omega
      have hkt : k < ts.length := by rw [Hn.out]; exact hlt
      obtain ⟨A2, c2, rfl, -, -, -⟩ := ho.cells br_len
      have hlk : (ts.take k).length = k := by rw [List.length_take]; omega
      rw [hlk] at ho ⊢
      go_upto_region 5 with fail
      refine Dr.wp_region_plan 13 [] (.q [0, 1, 2, 3, 4, 5, 6, 7, 8, 9, 10, 11] (.e1 12 .done)) (by kernel_rfl) (by kernel_rfl) ?_
      replace hb := hb.drew
      replace ho := ho.drew
      generalize World.drew wr = V at *
      obtain ⟨b, off, rfl, -, d0, d1⟩ := (ht.ext hb).at2 hkt rfl
      have q0 := Dr.cell0 d0
      have q1 := Dr.cell0 d1
      have Hts := Lib.hid (show ts.take (k + 1) = ts.take k ++ [ts[k]] from List.take_succ_eq_append_getElem hkt)
      clear d0 d1
      obtain ⟨t, htk⟩ : ∃ t, ts[k] = t := ⟨_, rfl⟩
      rw [htk] at q0 q1 Hts
      clear htk
      obtain ⟨t0, t1⟩ := t
      simp only at q0 q1
      refine Dr.plan_q (l := [_, _, _, _, _, _, _, _, _, _, _, _]) rfl (fun K hK => ?_)
      iterate 12 (go_big_quiet_step (fail))
      refine wpQuiet_nil (hK _ ?_); clear hK K
      clear q0 q1
      refine Dr.plan_e rfl (by rfl) (fun K hK => ?_)
      go_wp2
      have hbs : Below V.heap.size V (V.alloc (.cells #[.int .i64 t0, .int .i64 t1] 101)) := ext_alloc _ _
      have nw := Blk.new V 101 [.int .i64 t0, .int .i64 t1]
      refine hK _ _ (.of hbs) ?_; clear hK K
      have hs := hb.size
      replace hb := hb.trans (hbs.mono hs)
      replace ho := ho.ext hbs
      change Blk (V.alloc (.cells #[.int .i64 t0, .int .i64 t1] 101)) _ _ _ at nw
      generalize V.alloc (.cells #[.int .i64 t0, .int .i64 t1] 101) = V1 at *
      refine Dr.plan_done (tl := [_, _]) rfl ?_
      refine app1 Br.enc 79 101 2 16 et79 (by decide) (by decide) br_len br_one rfl _ _ rfl w.heap.size _ (ts.take k) rfl ho V.heap.size rfl ⟨t0, t1⟩ (fun j u hj => nw.cell hj) (by rw [hlk]; omega) hb.size ?_
      intro g' cap' w' hown' hb3 _ _
      rw [← Hts.out, hlk] at hown'
      rw [hlk]
      have hb4 := hb.trans hb3
      clear hb3 nw ho hbs hb hlk
      go_wp2
      go_roundw
      case rel => exact ⟨k + 1, by go_num, by omega, hown', hb4⟩
      case measure => simp [intOf]; omega
    · obtain rfl : k = n := by omega
      rw [List.take_of_length_le (by rw [Hn.out]; omega)] at ho
      go_wp2
      go_ret
      exact ⟨_, rfl, ho, hb⟩
set_option maxHeartbeats 1000000 in
theorem RoadFault_any (A : Option Addr) (n c : Nat) (ts : List Br) (w : World) (hn : ts.length = n) (hm : n ≤ 9223372036854775807) (ht : Cells w A 2 Br.enc ts) :
    Calls Try.prog 57 #[.slice A n c] w fun e w' => e = .returned (.int .i64 (roadE ts)) ∧ w = w' := by
  generalize hres : roadE ts = res
  unfold roadE at hres
  rw [hn] at hres
  have Hn := Lib.hid hn
  clear hn
  by_cases h30 : 30 < n
  · rw [if_pos h30] at hres
    have Hres := Lib.hid hres
    clear hres
    have h30' : (30 : Int) < (n : Int) := by omega
    go_enter Try.func57, Try.ntmps57
    go_wp2
    go_ret
    exact ⟨by rw [← Hres.out]; rfl, rfl⟩
  rw [if_neg h30] at hres
  have Hres := Lib.hid hres
  clear hres
  have h30' : ¬ (30 : Int) < (n : Int) := by omega
  go_enter Try.func57, Try.ntmps57
  go_wp2
  go_loop [3] (fun t => ∃ k : Nat, t = .int .i64 k ∧ k ≤ n ∧ Hid ((ts.take k).all Br.okB = true)) (fun t => n - (intOf t).toNat)
  case atStart => exact ⟨0, rfl, by omega, Lib.hid rfl⟩
  case round =>
    obtain ⟨k, rfl, hk, Hk⟩ := hrel
    by_cases hlt : k < n
    · have hlt' : (k : Int) < n := by omega
      have hkt : k < ts.length := by rw [Hn.out]; exact hlt
      obtain ⟨b, off, rfl, -, d0, d1⟩ := ht.at2 hkt rfl
      have Hok := Lib.hid (show ts[k].okB = true → (ts.take (k + 1)).all Br.okB = true from fun h => by
        rw [List.take_succ_eq_append_getElem hkt, List.all_append, Hk.out]; simp [h])
      have Hno := Lib.hid (show ts[k].okB = false → 1 = res from fun h => by
        rw [← Hres.out, if_neg]
        intro h2
        rw [List.all_eq_true] at h2
        rw [h2 _ (List.getElem_mem hkt)] at h
        cases h)
      unfold Br.okB at Hok Hno
      generalize ts[k].limit = a0 at *
      generalize ts[k].clear = a1 at *
      have C1 := Lib.hid (fun W => In_any a0 0 300000 W)
      have C2 := Lib.hid (fun W => In_any a1 0 600 W)
      generalize btw a0 0 300000 = b1 at *
      generalize btw a1 0 600 = b2 at *
      go_wp2_with fail
      refine (C1.out _).mono ?_; rintro e w1 ⟨rfl, rfl⟩
      cases b1
      · have Hr := Lib.hid (Hno.out (by simp))
        go_wp2
        go_ret
        exact ⟨by rw [← Hr.out]; rfl, rfl⟩
      go_wp2_with fail
      refine (C2.out _).mono ?_; rintro e w2 ⟨rfl, rfl⟩
      cases b2
      · have Hr := Lib.hid (Hno.out (by simp))
        go_wp2
        go_ret
        exact ⟨by rw [← Hr.out]; rfl, rfl⟩
      have H2 := Lib.hid (Hok.out rfl)
      go_wp2
      go_round
      case rel => exact ⟨k + 1, by go_num, by omega, H2⟩
      case measure => simp [intOf]; omega
    · obtain rfl : k = n := by omega
      have Hr := Lib.hid (show 0 = res by
        rw [← Hres.out]
        have e := Hk.out
        rw [List.take_of_length_le (by rw [Hn.out]; omega)] at e
        rw [if_pos e])
      go_wp2
      go_ret
      exact ⟨by rw [← Hr.out]; rfl, rfl⟩
theorem Holds_any (A : Option Addr) (n c : Nat) (h ca em re ax dk : Int) (l : List Int) (x y : Int) (w : World) :
    Calls Try.prog 56 #[.agg #[.slice A n c, .int .i64 h, .int .i64 ca, .int .i64 em, .int .i64 re, .int .i64 ax, .int .i64 dk], .int .i64 x, .int .i64 y] w fun e w' => e = .returned (.bool (holdsB ⟨l, h, ca, em, re, ax, dk⟩ x y)) ∧ Below w.heap.size w w' := by
  have hb := ext_alloc w (.cells #[.slice A n c, .int .i64 h, .int .i64 ca, .int .i64 em, .int .i64 re, .int .i64 ax, .int .i64 dk] 37)
  have hP := Blk.new w 37 [.slice A n c, .int .i64 h, .int .i64 ca, .int .i64 em, .int .i64 re, .int .i64 ax, .int .i64 dk]
  have C := Lib.hid (fun W => In_any x 0 ax W)
  generalize hres : holdsB ⟨l, h, ca, em, re, ax, dk⟩ x y = res
  unfold holdsB at hres
  simp only at hres
  generalize btw x 0 ax = b at *
  have Hres := Lib.hid hres
  clear hres
  go_enter Try.func56, Try.ntmps56
  go_upto_region 1 with fail
  change Blk (w.alloc (.cells #[.slice A n c, .int .i64 h, .int .i64 ca, .int .i64 em, .int .i64 re, .int .i64 ax, .int .i64 dk] 37)) _ _ _ at hP
  generalize w.alloc (.cells #[.slice A n c, .int .i64 h, .int .i64 ca, .int .i64 em, .int .i64 re, .int .i64 ax, .int .i64 dk] 37) = W0 at *
  have q5 : W0.cell? ⟨w.heap.size, 5, none⟩ = _ := hP.cell rfl
  by_cases hle : y ≤ ax
  · have Hr := Lib.hid (show b = res by rw [← Hres.out]; simp [hle])
    go_wp2_with fail
    refine (C.out _).mono ?_; rintro e w1 ⟨rfl, rfl⟩
    go_wp2
    go_ret
    exact ⟨ret_congr (bool_congr Hr.out), hb⟩
  · have hle2 : decide (y ≤ ax) = false := decide_eq_false hle
    have Hr := Lib.hid (show false = res by rw [← Hres.out, hle2]; rfl)
    go_wp2
    go_ret
    exact ⟨ret_congr (bool_congr Hr.out), hb⟩
end Go.Proofs.Ytbpmfaibcibleaa

/- Walks: Stops, and Stops of the document. (Printed by mk_stpa.py.) -/
namespace Go.Wg
open Go.RowKit Go.Bs Go.Pl
/-- does a bridge stop a lorry with things that have these numbers? -/
def stpB (j : Lo) (ts : List Th) (F : List Int) (b : Br) : Bool := decide (b.limit < j.empty + massL ts F) || decide (b.clear < j.deck + highL ts F)
def stopsTo (j : Lo) (ts : List Th) (F : List Int) (bs : List Br) (k : Nat) : List Int := (upto k).filter fun i => stpB j ts F (bs.getD i.toNat ⟨0, 0⟩)
theorem upto_succ (k : Nat) : upto (k + 1) = upto k ++ [(k : Int)] := by unfold upto; rw [List.range_succ, List.map_append]; rfl
theorem stopsTo_succ (j : Lo) (ts : List Th) (F : List Int) (bs : List Br) (k : Nat) (hk : k < bs.length) : stopsTo j ts F bs (k + 1) = if stpB j ts F bs[k] then stopsTo j ts F bs k ++ [(k : Int)] else stopsTo j ts F bs k := by
  unfold stopsTo
  rw [upto_succ, List.filter_append]
  have e : bs.getD (k : Int).toNat ⟨0, 0⟩ = bs[k] := by simp [List.getD, hk]
  by_cases h : stpB j ts F bs[k] = true
  · rw [if_pos h, List.filter_cons_of_pos (by rw [e]; exact h)]; rfl
  · rw [if_neg h, List.filter_cons_of_neg (by rw [e]; exact h)]; simp
theorem stopsTo_len (j : Lo) (ts : List Th) (F : List Int) (bs : List Br) (k : Nat) : (stopsTo j ts F bs k).length ≤ k := by
  unfold stopsTo
  have := List.length_filter_le (fun i => stpB j ts F (bs.getD i.toNat ⟨0, 0⟩)) (upto k)
  rw [upto_len] at this
  exact this
def stopsL (j : Lo) (ts : List Th) (p : List (List Int)) (bs : List Br) : List Int := stopsTo j ts p.flatten bs bs.length
/-- what Stops returns -/
def stopVal (j : Lo) (ts : List Th) (p : List (List Int)) (bs : List Br) : List Int × Int :=
  if checkE j ts ≠ 0 then ([], checkE j ts) else if rightB j ts p = false then ([], 9) else if roadE bs ≠ 0 then ([], roadE bs) else (stopsL j ts p bs, 0)
def StR (j : Lo) (ts : List Th) (p : List (List Int)) (bs : List Br) (w : World) (e : Ending) (w' : World) : Prop :=
  Below w.heap.size w w' ∧ ∃ v, e = .returned (.tuple #[v, .int .i64 (stopVal j ts p bs).2]) ∧ RowAt' w' v (stopVal j ts p bs).1
where
  RowAt' (W : World) (v : Value) (l : List Int) : Prop := ∃ A c, v = .slice A l.length c ∧ Cells W A 1 Go.Bs.encI l
theorem StR.mk {j : Lo} {ts : List Th} {p : List (List Int)} {bs : List Br} {w w' : World} {A : Option Addr} {c : Nat} {l : List Int} {n : Nat} {q : Int} (h : stopVal j ts p bs = (l, q)) (hn : l.length = n) (hb : Below w.heap.size w w') (hv : Cells w' A 1 Go.Bs.encI l) : StR j ts p bs w (.returned (.tuple #[.slice A n c, .int .i64 q])) w' := ⟨hb, _, by rw [h], by rw [h]; exact ⟨A, c, by rw [hn], hv⟩⟩
theorem roadE_zero {bs : List Br} : roadE bs = 0 ↔ bs.length ≤ 30 ∧ bs.all Br.okB = true := by
  unfold roadE
  by_cases h : 30 < bs.length
  · rw [if_pos h]; constructor
    · intro e; cases e
    · intro e; omega
  · rw [if_neg h]
    cases bs.all Br.okB
    · simp
    · simp; omega
theorem br_bd {b : Br} (h : b.okB = true) : (0 ≤ b.limit ∧ b.limit ≤ 300000) ∧ 0 ≤ b.clear ∧ b.clear ≤ 600 := by
  unfold Br.okB btw at h
  simp only [Bool.and_eq_true, decide_eq_true_eq] at h
  exact h
end Go.Wg
namespace Go.Proofs.Ytbpmfaibcibleaa
open Go.RowKit Go.Bs Go.Wg Go.Pl Go.Sort
theorem br_ok (l : List Br) (w : World) : PredF Try.prog 83 #[] #[] Br.val Br.okB w l := by
  intro W x hx hb
  obtain ⟨a, b⟩ := x
  have C1 := Lib.hid (fun W => within_any a 0 300000 W)
  have C2 := Lib.hid (fun W => within_any b 0 600 W)
  show Calls Try.prog 83 #[.agg #[.int .i64 a, .int .i64 b]] W fun e w' => e = .returned (.bool (btw a 0 300000 && btw b 0 600)) ∧ Below W.heap.size W w'
  generalize btw a 0 300000 = b1 at *
  generalize btw b 0 600 = b2 at *
  clear hx hb
  have hb0 := ext_alloc W (.cells #[.int .i64 a, .int .i64 b] 101)
  have hP := Blk.new W 101 [.int .i64 a, .int .i64 b]
  go_enter Try.func83, Try.ntmps83
  go_upto_region 1 with fail
  change Blk (W.alloc (.cells #[.int .i64 a, .int .i64 b] 101)) _ _ _ at hP
  generalize W.alloc (.cells #[.int .i64 a, .int .i64 b] 101) = W0 at *
  have c0 : W0.cell? ⟨W.heap.size, 0, none⟩ = _ := hP.cell rfl
  have c1 : W0.cell? ⟨W.heap.size, 1, none⟩ = _ := hP.cell rfl
  have hlt := hP.lt
  clear hP
  go_wp2_with fail
  refine (C1.out _).mono ?_; rintro e w1 ⟨rfl, rfl⟩
  cases b1
  · go_wp2
    go_ret
    exact ⟨rfl, hb0⟩
  go_wp2_with fail
  refine (C2.out _).mono ?_; rintro e w1 ⟨rfl, rfl⟩
  cases b2
  · go_wp2
    go_ret
    exact ⟨rfl, hb0⟩
  · go_wp2
    go_ret
    exact ⟨rfl, hb0⟩
set_option maxRecDepth 100000 in
set_option maxHeartbeats 4000000 in
theorem StopsR_any (A : Option Addr) (n c : Nat) (h ca em re ax dk : Int) (L : List Int) (T : Option Addr) (m cT : Nat) (ts : List Th) (R : Option Addr) (k cR : Nat) (rs : List RwV) (B : Option Addr) (q cB : Nat) (bs : List Br) (w : World)
    (hm : ts.length = m) (ht : Cells w T 4 Th.enc ts) (hk : rs.length = k) (hM : RwM w R rs) (hq : bs.length = q) (hB : Cells w B 2 Br.enc bs) (hO : checkE ⟨L, h, ca, em, re, ax, dk⟩ ts = 0) (hR : rightB ⟨L, h, ca, em, re, ax, dk⟩ ts (rows rs) = true) (hroad : roadE bs = 0) :
    Calls Try.prog 58 #[.agg #[.slice A n c, .int .i64 h, .int .i64 ca, .int .i64 em, .int .i64 re, .int .i64 ax, .int .i64 dk], .slice T m cT, .slice R k cR, .slice B q cB] w fun e w' => (∃ A2 c2, e = .returned (.slice A2 (stopsL ⟨L, h, ca, em, re, ax, dk⟩ ts (rows rs) bs).length c2) ∧ Cells w' A2 1 Go.Bs.encI (stopsL ⟨L, h, ca, em, re, ax, dk⟩ ts (rows rs) bs)) ∧ Below w.heap.size w w' := by
  have HO := Lib.hid (checkE_zero.1 hO)
  have HR := Lib.hid (right_iff.1 hR)
  obtain ⟨hq30, hball⟩ := roadE_zero.1 hroad
  have Hball := Lib.hid (fun b hb => br_bd (List.all_eq_true.1 hball b hb))
  have Hm := Lib.hid hm
  have Hq := Lib.hid hq
  have hk6 : k ≤ 6 := by
    have h1 := HR.out.many
    rw [rows_len, hk] at h1
    have h2 := HO.out.1.many
    simp only at h1 h2
    omega
  have hm14 : m ≤ 14 := by have := HO.out.2.1; omega
  rw [hq] at hq30
  have hin : InR m (rows rs).flatten := fun y hy => by rw [← hm]; exact mem_upto.1 (HR.out.perm.mem_iff.1 hy)
  have Hin := Lib.hid hin
  have hfl : (rows rs).flatten.length ≤ 14 := by
    have h1 := HR.out.perm.length_eq
    rw [upto_len] at h1
    omega
  have hml := massL_bd HO.out.2.2 (by rw [hm]; exact hin)
  have hml2 : 0 ≤ massL ts (rows rs).flatten ∧ massL ts (rows rs).flatten ≤ 1400000 := by omega
  have hhl := highL_bd HO.out.2.2 _ (by rw [hm]; exact hin)
  have C1 := Lib.hid (fun V (hV : Below w.heap.size w V) => allR_any R k cR rs V hk (by omega) (hM.ext hV) (by omega))
  have C2 := Lib.hid (fun V (hV : Below w.heap.size w V) (A1 : Option Addr) (n1 c1 : Nat) (l : List Int) => fun a b c d => Masses_any T m cT ts A1 n1 c1 l V hm HO.out.2.2 (ht.ext hV) a b c d)
  have C3 := Lib.hid (fun V (hV : Below w.heap.size w V) (A1 : Option Addr) (n1 c1 : Nat) (l : List Int) => fun a b c d => Highest_any T m cT ts A1 n1 c1 l V hm (ht.ext hV) a b c d)
  have HB := Lib.hid hB
  have hem := HO.out.1.empty
  have hdk := HO.out.1.deck
  simp only at hem hdk
  have Hst := Lib.hid (fun z (hz : z < bs.length) => stopsTo_succ ⟨L, h, ca, em, re, ax, dk⟩ ts (rows rs).flatten bs z hz)
  have Hsl := Lib.hid (fun z => stopsTo_len ⟨L, h, ca, em, re, ax, dk⟩ ts (rows rs).flatten bs z)
  unfold stopsL
  rw [hq]
  have Hs0 := Lib.hid (show stopsTo ⟨L, h, ca, em, re, ax, dk⟩ ts (rows rs).flatten bs 0 = [] from rfl)
  unfold stpB at Hst
  simp only at Hst
  generalize stopsTo ⟨L, h, ca, em, re, ax, dk⟩ ts (rows rs).flatten bs = St at *
  generalize (rows rs).flatten = F at *
  clear hm hk hM ht hO hR hq hB hroad hball hin hml
  generalize hMA : massL ts F = MA at *
  generalize hHI : highL ts F = HI at *
  have HMA := Lib.hid hMA
  have HHI := Lib.hid hHI
  clear hMA hHI
  have hb := ext_alloc w (.cells #[.slice A n c, .int .i64 h, .int .i64 ca, .int .i64 em, .int .i64 re, .int .i64 ax, .int .i64 dk] 37)
  have hP := Blk.new w 37 [.slice A n c, .int .i64 h, .int .i64 ca, .int .i64 em, .int .i64 re, .int .i64 ax, .int .i64 dk]
  go_enter Try.func58, Try.ntmps58
  go_upto_region 1 with fail
  change Blk (w.alloc (.cells #[.slice A n c, .int .i64 h, .int .i64 ca, .int .i64 em, .int .i64 re, .int .i64 ax, .int .i64 dk] 37)) _ _ _ at hP
  change Below w.heap.size w (w.alloc (.cells #[.slice A n c, .int .i64 h, .int .i64 ca, .int .i64 em, .int .i64 re, .int .i64 ax, .int .i64 dk] 37)) at hb
  generalize w.alloc (.cells #[.slice A n c, .int .i64 h, .int .i64 ca, .int .i64 em, .int .i64 re, .int .i64 ax, .int .i64 dk] 37) = W0 at *
  go_wp2
  go_loopw [9, 10] (fun s t wr => ∃ z : Nat, t = .int .i64 z ∧ z ≤ q ∧ OwnL wr W0.heap.size 3 1 Go.Bs.encI s (St z) ∧ Below W0.heap.size W0 wr) (fun _ t _ => q - (intOf t).toNat)
  case atStart => exact ⟨0, rfl, by omega, by rw [Hs0.out]; exact OwnL.nil, Below.refl _ _⟩
  case round =>
    obtain ⟨z, rfl, hz, ho, hbr⟩ := hrel
    by_cases hlt : z < q
    · have hlt' : (z : Int) < (q : Int) := by omega
      have hz1 : z < bs.length := by rw [Hq.out]; exact hlt
      have hz0 : (0 : Int) ≤ (z : Int) := by omega
      have Hst1 := Lib.hid (Hst.out z hz1)
      have hsl := Hsl.out z
      have hbb := Hball.out _ (List.getElem_mem hz1)
      go_upto_region 5 with fail
      refine Dr.wp_region_plan 28 [] (.q [0, 1, 2, 3, 7, 8, 9, 10, 11] (.e1 4 (.e1 5 (.q [6, 12, 13, 14, 15, 16, 17, 21, 22, 23, 24, 25] (.e1 18 (.e1 19 (.q [20, 26, 27] .done))))))) (by kernel_rfl) (by kernel_rfl) ?_
      have hbd := ext_trans hb (hbr.drew)
      have hPd := (hP.ext hbr).drew
      replace ho := ho.drew
      have hbr0 := hbr.drew
      clear hbr
      generalize World.drew wr = V0 at *
      have q3 := Dr.cell0 (hPd.cell (i := 3) rfl)
      obtain ⟨b4, off4, rfl, -, d0, d1⟩ := (HB.out.ext hbd).at2 hz1 rfl
      generalize bs[z].limit = lim at *
      generalize bs[z].clear = clr at *
      have e0 := Dr.cell0 d0
      have D1 := Lib.hid d1
      with_reducible refine Dr.plan_q (l := [_, _, _, _, _, _, _, _, _]) (by with_unfolding_all exact rfl) (fun K hK => ?_)
      iterate 9 (go_big_quiet_step (fail))
      refine wpQuiet_nil (hK _ ?_); clear hK K
      clear q3 e0 d0 d1
      refine Dr.plan_e rfl (by rfl) (fun K hK => ?_)
      go_wp2_with fail
      refine (C1.out _ hbd).mono ?_; rintro e V1 ⟨v1, rfl, ho1, hx⟩
      refine hK _ _ (.of hx) ?_; clear hK K
      obtain ⟨A1, c1, rfl, -, -, hc1⟩ := ho1.cells Go.Bs.encI_len
      replace hbd := ext_trans hbd hx
      replace hPd := hPd.ext hx
      replace ho := ho.ext hx
      replace hbr0 := hbr0.trans (hx.mono hbr0.size)
      have hxx := hx
      have CM1 := Lib.hid (C2.out _ hbd A1 F.length c1 F rfl (by omega) Hin.out hc1)
      rw [HMA.out] at CM1
      clear hx ho1 hc1
      refine Dr.plan_e rfl (by rfl) (fun K hK => ?_)
      go_wp2_with fail
      refine (CM1.out).mono ?_; rintro e V2 ⟨rfl, rfl⟩
      refine hK _ _ (.refl _ _) ?_; clear hK K
      clear CM1
      have q6 := Dr.cell0 (hPd.cell (i := 6) rfl)
      have e1 := Dr.cell0 (Go.Bs.cell_ext D1.out hxx)
      by_cases hlm : lim < em + MA
      case pos =>
        have hs : St (z + 1) = St z ++ [(z : Int)] := by rw [Hst1.out, decide_eq_true hlm, Bool.true_or, if_pos rfl]
        have Hs := Lib.hid hs
        clear hs Hst1
        with_reducible refine Dr.plan_q (l := [_, _, _, _, _, _, _, _, _, _, _, _]) (by with_unfolding_all exact rfl) (fun K hK => ?_)
        iterate 12 (go_big_quiet_step (fail))
        refine wpQuiet_nil (hK _ ?_); clear hK K
        refine Dr.plan_e_skip rfl (by rfl) ?_; go_frame
        refine Dr.plan_e_skip rfl (by rfl) ?_; go_frame
        with_reducible refine Dr.plan_q (l := [_, _, _]) (by with_unfolding_all exact rfl) (fun K hK => ?_)
        iterate 3 (go_big_quiet_step (fail))
        refine wpQuiet_nil (hK _ ?_); clear hK K
        refine Dr.plan_end rfl ?_
        clear q6 e1
        go_upto_region 4 with (at_builtin; refine app1 Go.Bs.encI 35 3 1 8 et35 (by decide) (by decide) Go.Bs.encI_len Go.Bs.encI_one rfl _ _ rfl W0.heap.size _ (St z) rfl (ho.alloc _) V1.heap.size rfl (z : Int) (Go.Bs.encI_cell ((Blk.new V1 3 [.int .i64 (z : Int)]).cell rfl)) (by have := hsl; omega) (by have := hbr0.size; simp; omega) ?_; intro g' cap' V2 hown2 hb2 _ _)
        have hbr2 := hbr0.trans (((ext_alloc V1 (.cells #[.int .i64 (z : Int)] 3)).mono hbr0.size).trans hb2)
        go_wp2
        go_roundw
        case rel => exact ⟨z + 1, by go_num, by omega, by rw [Hs.out]; exact hown2, hbr2⟩
        case measure => simp [intOf]; omega
      case neg =>
      have hlm' : ¬ lim < em + MA := hlm
      with_reducible refine Dr.plan_q (l := [_, _, _, _, _, _, _, _, _, _, _, _]) (by with_unfolding_all exact rfl) (fun K hK => ?_)
      iterate 12 (go_big_quiet_step (fail))
      refine wpQuiet_nil (hK _ ?_); clear hK K
      clear q6 e1
      refine Dr.plan_e rfl (by rfl) (fun K hK => ?_)
      go_wp2_with fail
      refine (C1.out _ hbd).mono ?_; rintro e V3 ⟨v3, rfl, ho3, hx⟩
      refine hK _ _ (.of hx) ?_; clear hK K
      obtain ⟨A3, c3, rfl, -, -, hc3⟩ := ho3.cells Go.Bs.encI_len
      replace hbd := ext_trans hbd hx
      replace ho := ho.ext hx
      replace hbr0 := hbr0.trans (hx.mono hbr0.size)
      have CM3 := Lib.hid (C3.out _ hbd A3 F.length c3 F rfl (by omega) Hin.out hc3)
      rw [HHI.out] at CM3
      clear hx ho3 hc3
      refine Dr.plan_e rfl (by rfl) (fun K hK => ?_)
      go_wp2_with fail
      refine (CM3.out).mono ?_; rintro e V4 ⟨rfl, rfl⟩
      refine hK _ _ (.refl _ _) ?_; clear hK K
      clear CM3
      with_reducible refine Dr.plan_q (l := [_, _, _]) (by with_unfolding_all exact rfl) (fun K hK => ?_)
      iterate 3 (go_big_quiet_step (fail))
      refine wpQuiet_nil (hK _ ?_); clear hK K
      refine Dr.plan_end rfl ?_
      by_cases hcl : clr < dk + HI
      · have hs : St (z + 1) = St z ++ [(z : Int)] := by rw [Hst1.out, decide_eq_true hcl, Bool.or_true, if_pos rfl]
        have Hs := Lib.hid hs
        clear hs Hst1
        go_upto_region 4 with (at_builtin; refine app1 Go.Bs.encI 35 3 1 8 et35 (by decide) (by decide) Go.Bs.encI_len Go.Bs.encI_one rfl _ _ rfl W0.heap.size _ (St z) rfl (ho.alloc _) V3.heap.size rfl (z : Int) (Go.Bs.encI_cell ((Blk.new V3 3 [.int .i64 (z : Int)]).cell rfl)) (by have := hsl; omega) (by have := hbr0.size; simp; omega) ?_; intro g' cap' V2 hown2 hb2 _ _)
        have hbr2 := hbr0.trans (((ext_alloc V3 (.cells #[.int .i64 (z : Int)] 3)).mono hbr0.size).trans hb2)
        go_wp2
        go_roundw
        case rel => exact ⟨z + 1, by go_num, by omega, by rw [Hs.out]; exact hown2, hbr2⟩
        case measure => simp [intOf]; omega
      · have hs : St (z + 1) = St z := by rw [Hst1.out, decide_eq_false (show ¬ clr < dk + HI by omega), decide_eq_false (show ¬ lim < em + MA by omega), Bool.or_false, if_neg (by decide)]
        have Hs := Lib.hid hs
        clear hs Hst1
        go_wp2
        go_roundw
        case rel => exact ⟨z + 1, by go_num, by omega, by rw [Hs.out]; exact ho, hbr0⟩
        case measure => simp [intOf]; omega
    · obtain rfl : z = q := by omega
      obtain ⟨A1, c1, rfl, -, -, hc1⟩ := ho.cells Go.Bs.encI_len
      have hbf := ext_trans hb hbr
      go_wp2
      go_ret
      exact ⟨⟨A1, c1, rfl, hc1⟩, hbf⟩
end Go.Proofs.Ytbpmfaibcibleaa

/- Walk: Stops. (Printed by mk_stpa.py.) -/
namespace Go.Proofs.Ytbpmfaibcibleaa
open Go.RowKit Go.Bs Go.Wg Go.Pl Go.Sort
set_option maxRecDepth 100000 in
set_option maxHeartbeats 4000000 in
theorem Stops_any (v : JbV) (ts : List Th) (R : Option Addr) (k cR : Nat) (rs : List RwV) (B : Option Addr) (q cB : Nat) (bs : List Br) (w : World) (hsl : v.x.l.lanes.length ≤ 9223372036854775807) (hst : ts.length ≤ 9223372036854775807) (hl : Cells w v.x.A 1 Go.Bs.encI v.x.l.lanes) (ht : Cells w v.T 4 Th.enc ts) (hk : rs.length = k) (hk1 : k ≤ 1000000) (hM : RwM w R rs) (hF : (rows rs).flatten.length ≤ 1000000) (hq : bs.length = q) (hq1 : q ≤ 1000000) (hB : Cells w B 2 Br.enc bs) :
    Calls Try.prog 53 #[LoV.val v.x, .slice v.T ts.length v.cT, .slice R k cR, .slice B q cB] w (StR v.x.l ts (rows rs) bs w) := by
  have HF := Lib.hid hF
  have Hk := Lib.hid hk
  have HM := Lib.hid hM
  have Hq := Lib.hid hq
  have HB := Lib.hid hB
  have C1 := Lib.hid (fun V (hV : Below w.heap.size w V) => check_any v ts V hsl hst (hl.ext hV) (ht.ext hV))
  have C2 := Lib.hid (fun V (hV : Below w.heap.size w V) (h0 : checkE v.x.l ts = 0) => by
    obtain ⟨h1, h2, h3⟩ := checkE_zero.1 h0
    exact right_any v ts R k cR rs V ⟨hl.ext hV, ht.ext hV, by have := h1.many; omega, by omega⟩ h3 h1 h2 hk hk1 (hM.ext hV) hF)
  have HT := Lib.hid ht
  have HL := Lib.hid hl
  clear hF hk hM hq hB
  have hb := ext_alloc w (.cells (LoV.enc v.x).toArray 44)
  have hP := Blk.new w 44 (LoV.enc v.x)
  clear hl ht
  unfold LoV.val
  unfold LoV.enc at *
  go_enter Try.func53, Try.ntmps53
  go_upto_region 1 with fail
  change Blk (w.alloc (.cells #[.slice v.x.A v.x.l.lanes.length v.x.c, .int .i64 v.x.l.height, .int .i64 v.x.l.carries, .int .i64 v.x.l.empty, .int .i64 v.x.l.rear, .int .i64 v.x.l.axle, .int .i64 v.x.l.deck] 44)) _ _ _ at hP
  change Below w.heap.size w (w.alloc (.cells #[.slice v.x.A v.x.l.lanes.length v.x.c, .int .i64 v.x.l.height, .int .i64 v.x.l.carries, .int .i64 v.x.l.empty, .int .i64 v.x.l.rear, .int .i64 v.x.l.axle, .int .i64 v.x.l.deck] 44)) at hb
  generalize w.alloc (.cells #[.slice v.x.A v.x.l.lanes.length v.x.c, .int .i64 v.x.l.height, .int .i64 v.x.l.carries, .int .i64 v.x.l.empty, .int .i64 v.x.l.rear, .int .i64 v.x.l.axle, .int .i64 v.x.l.deck] 44) = W0 at *
  have q0 : W0.cell? ⟨w.heap.size, 0, none⟩ = _ := hP.cell rfl
  have q1 : W0.cell? ⟨w.heap.size, 1, none⟩ = _ := hP.cell rfl
  have q2 : W0.cell? ⟨w.heap.size, 2, none⟩ = _ := hP.cell rfl
  have q3 : W0.cell? ⟨w.heap.size, 3, none⟩ = _ := hP.cell rfl
  have q4 : W0.cell? ⟨w.heap.size, 4, none⟩ = _ := hP.cell rfl
  have q5 : W0.cell? ⟨w.heap.size, 5, none⟩ = _ := hP.cell rfl
  have q6 : W0.cell? ⟨w.heap.size, 6, none⟩ = _ := hP.cell rfl
  have D1 := Lib.hid (C1.out W0 hb)
  unfold LoV.val at D1
  generalize hce : checkE v.x.l ts = ce at *
  have Hce := Lib.hid hce
  clear hce
  go_wp2_with fail
  refine (D1.out).mono ?_; rintro e W1 ⟨rfl, hx⟩
  replace hb := ext_trans hb hx
  replace hP := hP.ext hx
  clear q0 q1 q2 q3 q4 q5 q6
  clear D1 hx C1
  by_cases h0 : ce = 0
  case neg =>
    have h00 : (ce != 0) = true := by rw [bne_iff_ne]; exact h0
    have Hr := Lib.hid (show stopVal v.x.l ts (rows rs) bs = ([], ce) by unfold stopVal; rw [Hce.out, if_pos h0])
    clear h0
    go_wp2
    go_ret2
    exact StR.mk Hr.out rfl hb Cells.nil
  case pos =>
  subst h0
  have h00 : ((0 : Int) != 0) = false := rfl
  go_upto_region 4 with fail
  have hJ := Blk.new W1 108 (JbV.enc v ts)
  have hx2 := ext_alloc W1 (.cells (JbV.enc v ts).toArray 108)
  unfold JbV.enc at hJ hx2
  have q0 : W1.cell? ⟨w.heap.size, 0, none⟩ = _ := hP.cell rfl
  have q1 : W1.cell? ⟨w.heap.size, 1, none⟩ = _ := hP.cell rfl
  have q2 : W1.cell? ⟨w.heap.size, 2, none⟩ = _ := hP.cell rfl
  have q3 : W1.cell? ⟨w.heap.size, 3, none⟩ = _ := hP.cell rfl
  have q4 : W1.cell? ⟨w.heap.size, 4, none⟩ = _ := hP.cell rfl
  have q5 : W1.cell? ⟨w.heap.size, 5, none⟩ = _ := hP.cell rfl
  have q6 : W1.cell? ⟨w.heap.size, 6, none⟩ = _ := hP.cell rfl
  go_upto_region 5 with fail
  change Blk (W1.alloc (.cells #[.slice v.x.A v.x.l.lanes.length v.x.c, .int .i64 v.x.l.height, .int .i64 v.x.l.carries, .int .i64 v.x.l.empty, .int .i64 v.x.l.rear, .int .i64 v.x.l.axle, .int .i64 v.x.l.deck, .slice v.T ts.length v.cT] 108)) _ _ _ at hJ
  change Below W1.heap.size W1 (W1.alloc (.cells #[.slice v.x.A v.x.l.lanes.length v.x.c, .int .i64 v.x.l.height, .int .i64 v.x.l.carries, .int .i64 v.x.l.empty, .int .i64 v.x.l.rear, .int .i64 v.x.l.axle, .int .i64 v.x.l.deck, .slice v.T ts.length v.cT] 108)) at hx2
  generalize W1.alloc (.cells #[.slice v.x.A v.x.l.lanes.length v.x.c, .int .i64 v.x.l.height, .int .i64 v.x.l.carries, .int .i64 v.x.l.empty, .int .i64 v.x.l.rear, .int .i64 v.x.l.axle, .int .i64 v.x.l.deck, .slice v.T ts.length v.cT] 108) = W2 at *
  clear q0 q1 q2 q3 q4 q5 q6
  have hPJ := hP.lt
  replace hb := ext_trans hb hx2
  replace hP := hP.ext hx2
  have D2 := Lib.hid (C2.out W2 hb (by first | rfl | trivial))
  unfold JbV.val at D2
  clear hx2 C2
  have q0 : W2.cell? ⟨W1.heap.size, 0, none⟩ = _ := hJ.cell rfl
  have q1 : W2.cell? ⟨W1.heap.size, 1, none⟩ = _ := hJ.cell rfl
  have q2 : W2.cell? ⟨W1.heap.size, 2, none⟩ = _ := hJ.cell rfl
  have q3 : W2.cell? ⟨W1.heap.size, 3, none⟩ = _ := hJ.cell rfl
  have q4 : W2.cell? ⟨W1.heap.size, 4, none⟩ = _ := hJ.cell rfl
  have q5 : W2.cell? ⟨W1.heap.size, 5, none⟩ = _ := hJ.cell rfl
  have q6 : W2.cell? ⟨W1.heap.size, 6, none⟩ = _ := hJ.cell rfl
  have q7 : W2.cell? ⟨W1.heap.size, 7, none⟩ = _ := hJ.cell rfl
  have hJlt := hJ.lt
  generalize hrb : rightB v.x.l ts (rows rs) = rb at *
  have Hrb := Lib.hid hrb
  clear hrb
  go_wp2_with fail
  refine (D2.out).mono ?_; rintro e W3 ⟨rfl, hx⟩
  replace hb := ext_trans hb hx
  replace hP := hP.ext hx
  replace hJ := hJ.ext hx
  clear q0 q1 q2 q3 q4 q5 q6 q7
  clear hx D2 hJlt
  cases rb
  case false =>
    have Hr := Lib.hid (show stopVal v.x.l ts (rows rs) bs = ([], 9) by unfold stopVal; rw [Hce.out, Hrb.out, if_neg (by simp), if_pos rfl])
    go_wp2
    go_ret2
    exact StR.mk Hr.out rfl hb Cells.nil
  case true =>
  have HV := Lib.hid (show stopVal v.x.l ts (rows rs) bs = if roadE bs ≠ 0 then ([], roadE bs) else (stopsL v.x.l ts (rows rs) bs, 0) by unfold stopVal; rw [Hce.out, Hrb.out, if_neg (by simp), if_neg (by simp)])
  have HR := Lib.hid (right_iff.1 Hrb.out)
  have HO := Lib.hid (checkE_zero.1 Hce.out)
  clear Hrb Hce
  by_cases h30 : 30 < q
  · have h30' : (30 : Int) < (q : Int) := by omega
    have Hr := Lib.hid (show stopVal v.x.l ts (rows rs) bs = ([], 3) by rw [HV.out, show roadE bs = 3 by unfold roadE; rw [Hq.out, if_pos h30]]; rfl)
    clear h30
    go_wp2
    go_ret2
    exact StR.mk Hr.out rfl hb Cells.nil
  have h30' : ¬ (30 : Int) < (q : Int) := by omega
  have CA := Lib.hid (all_br 83 #[] #[] Br.okB B q cB bs W3 (enters_of Try.func83 (by kernel_rfl) rfl) Hq.out (by omega) (HB.out.ext hb) (br_ok bs W3))
  have hroad : roadE bs = if bs.all Br.okB then 0 else 1 := by unfold roadE; rw [Hq.out, if_neg h30]
  rw [hroad] at HV
  generalize hba : bs.all Br.okB = ba at *
  have Hba := Lib.hid hba
  clear hba hroad
  go_wp2_with fail
  refine (CA.out).mono ?_; rintro e W4 ⟨rfl, hx⟩
  replace hb := ext_trans hb hx
  replace hP := hP.ext hx
  replace hJ := hJ.ext hx
  clear hx CA
  cases ba
  · have Hr := Lib.hid (show stopVal v.x.l ts (rows rs) bs = ([], 1) by rw [HV.out]; rfl)
    go_wp2
    go_ret2
    exact StR.mk Hr.out rfl hb Cells.nil
  have Hr := Lib.hid (show stopVal v.x.l ts (rows rs) bs = (stopsL v.x.l ts (rows rs) bs, 0) by rw [HV.out]; rfl)
  have Hball := Lib.hid (fun b hb => br_bd (List.all_eq_true.1 Hba.out b hb))
  have CC := Lib.hid (concat_any R k cR rs W4 Hk.out hk1 (HM.out.ext hb) HF.out)
  have hin : InR ts.length (rows rs).flatten := fun y hy => mem_upto.1 (HR.out.perm.mem_iff.1 hy)
  have Hin := Lib.hid hin
  have h14 := HO.out.2.1
  have hfl : (rows rs).flatten.length ≤ 14 := by
    have h1 := HR.out.perm.length_eq
    rw [upto_len] at h1
    omega
  have hml := massL_bd HO.out.2.2 hin
  have hml2 : 0 ≤ massL ts (rows rs).flatten ∧ massL ts (rows rs).flatten ≤ 1400000 := by omega
  have hhl := highL_bd HO.out.2.2 _ hin
  have hlm := HO.out.1.many
  have CM := Lib.hid (fun V (hV : Below w.heap.size w V) (A1 : Option Addr) (n1 c1 : Nat) (l : List Int) => fun a b c d => mass_any v ts A1 n1 c1 l V ⟨HL.out.ext hV, HT.out.ext hV, by omega, by omega⟩ HO.out.2.2 a b c d)
  have CH := Lib.hid (fun V (hV : Below w.heap.size w V) (A1 : Option Addr) (n1 c1 : Nat) (l : List Int) => fun a b c d => high_any v ts A1 n1 c1 l V ⟨HL.out.ext hV, HT.out.ext hV, by omega, by omega⟩ HO.out.2.2 a b c d)
  unfold JbV.val at CM CH
  have hem := HO.out.1.empty
  have hdk := HO.out.1.deck
  have Hst := Lib.hid (fun z (hz : z < bs.length) => stopsTo_succ v.x.l ts (rows rs).flatten bs z hz)
  have Hsl := Lib.hid (fun z => stopsTo_len v.x.l ts (rows rs).flatten bs z)
  unfold stopsL at Hr
  rw [Hq.out] at Hr
  have Hs0 := Lib.hid (show stopsTo v.x.l ts (rows rs).flatten bs 0 = [] from rfl)
  unfold stpB at Hst
  clear hin hml HV Hba
  generalize stopsTo v.x.l ts (rows rs).flatten bs = St at *
  generalize (rows rs).flatten = F at *
  generalize hMA : massL ts F = MA at *
  generalize hHI : highL ts F = HI at *
  have HMA := Lib.hid hMA
  have HHI := Lib.hid hHI
  clear hMA hHI
  go_wp2_with fail
  refine (CC.out).mono ?_; rintro e W5 ⟨v5, rfl, ho5, hx⟩
  obtain ⟨A5, c5, rfl, -, -, hc5⟩ := ho5.cells Go.Bs.encI_len
  replace hb := ext_trans hb hx
  replace hP := hP.ext hx
  replace hJ := hJ.ext hx
  clear hx CC ho5
  go_wp2
  go_loopw [13, 14, 15, 42] (fun s _ _ t wr => ∃ z : Nat, t = .int .i64 z ∧ z ≤ q ∧ OwnL wr W5.heap.size 3 1 Go.Bs.encI s (St z) ∧ Below W5.heap.size W5 wr) (fun _ _ _ t _ => q - (intOf t).toNat)
  case atStart => exact ⟨0, rfl, by omega, by rw [Hs0.out]; exact OwnL.nil, Below.refl _ _⟩
  case round =>
    obtain ⟨z, rfl, hz, ho, hbr⟩ := hrel
    by_cases hlt : z < q
    · have hlt' : (z : Int) < (q : Int) := by omega
      have hz1 : z < bs.length := by rw [Hq.out]; exact hlt
      have hz0 : (0 : Int) ≤ (z : Int) := by omega
      have Hst1 := Lib.hid (Hst.out z hz1)
      have hsl := Hsl.out z
      have hbb := Hball.out _ (List.getElem_mem hz1)
      obtain ⟨b4, off4, rfl, -, d0, d1⟩ := (HB.out.ext (ext_trans hb hbr)).at2 hz1 rfl
      generalize bs[z].limit = lim at *
      generalize bs[z].clear = clr at *
      have hN := Blk.new wr 101 [.int .i64 lim, .int .i64 clr]
      have hxN := ext_alloc wr (.cells #[.int .i64 lim, .int .i64 clr] 101)
      go_upto_region 16 with fail
      change Blk (wr.alloc (.cells #[.int .i64 lim, .int .i64 clr] 101)) _ _ _ at hN
      change Below wr.heap.size wr (wr.alloc (.cells #[.int .i64 lim, .int .i64 clr] 101)) at hxN
      clear d0 d1
      replace ho := ho.ext hxN
      have hbx := hbr.trans (hxN.mono hbr.size)
      have hWr := hbr.size
      generalize wr.alloc (.cells #[.int .i64 lim, .int .i64 clr] 101) = V9 at *
      refine Dr.wp_region_plan 20 [] (.q [0, 1, 2, 3, 6, 7] (.e1 4 (.q [5, 8, 9, 10, 11, 12, 13, 16, 17] (.e1 14 (.q [15, 18, 19] .done))))) (by kernel_rfl) (by kernel_rfl) ?_
      have hbd := ext_trans hb hbx.drew
      have hPd := (hP.ext hbx).drew
      have hJd := (hJ.ext hbx).drew
      have hNd := hN.drew
      replace ho := ho.drew
      have hbr0 := hbx.drew
      have hcd := (hc5.ext hbx).drew
      clear hbx hxN hN
      generalize World.drew V9 = V0 at *
      have p3 := Dr.cell0 (hPd.cell (i := 3) rfl)
      have n0 := Dr.cell0 (hNd.cell (i := 0) rfl)
      have q0 := Dr.cell0 (hJd.cell (i := 0) rfl)
      have q1 := Dr.cell0 (hJd.cell (i := 1) rfl)
      have q2 := Dr.cell0 (hJd.cell (i := 2) rfl)
      have q3 := Dr.cell0 (hJd.cell (i := 3) rfl)
      have q4 := Dr.cell0 (hJd.cell (i := 4) rfl)
      have q5 := Dr.cell0 (hJd.cell (i := 5) rfl)
      have q6 := Dr.cell0 (hJd.cell (i := 6) rfl)
      have q7 := Dr.cell0 (hJd.cell (i := 7) rfl)
      with_reducible refine Dr.plan_q (l := [_, _, _, _, _, _]) (by with_unfolding_all exact rfl) (fun K hK => ?_)
      iterate 6 (go_big_quiet_step (fail))
      refine wpQuiet_nil (hK _ ?_); clear hK K
      clear q0 q1 q2 q3 q4 q5 q6 q7
      clear p3 n0
      have CM1 := Lib.hid (CM.out _ hbd A5 F.length c5 F rfl (by omega) Hin.out hcd)
      rw [HMA.out] at CM1
      refine Dr.plan_e rfl (by rfl) (fun K hK => ?_)
      go_wp2_with fail
      refine (CM1.out).mono ?_; rintro e V1 ⟨rfl, hx⟩
      refine hK _ _ (.of hx) ?_; clear hK K
      replace hbd := ext_trans hbd hx
      replace hPd := hPd.ext hx
      replace hJd := hJd.ext hx
      replace hNd := hNd.ext hx
      replace ho := ho.ext hx
      replace hbr0 := hbr0.trans (hx.mono hbr0.size)
      replace hcd := hcd.ext hx
      clear CM1 hx
      have p6 := Dr.cell0 (hPd.cell (i := 6) rfl)
      have n1 := Dr.cell0 (hNd.cell (i := 1) rfl)
      have q0 := Dr.cell0 (hJd.cell (i := 0) rfl)
      have q1 := Dr.cell0 (hJd.cell (i := 1) rfl)
      have q2 := Dr.cell0 (hJd.cell (i := 2) rfl)
      have q3 := Dr.cell0 (hJd.cell (i := 3) rfl)
      have q4 := Dr.cell0 (hJd.cell (i := 4) rfl)
      have q5 := Dr.cell0 (hJd.cell (i := 5) rfl)
      have q6 := Dr.cell0 (hJd.cell (i := 6) rfl)
      have q7 := Dr.cell0 (hJd.cell (i := 7) rfl)
      by_cases hlmt : lim < v.x.l.empty + MA
      case pos =>
        have hs : St (z + 1) = St z ++ [(z : Int)] := by rw [Hst1.out, decide_eq_true hlmt, Bool.true_or, if_pos rfl]
        have Hs := Lib.hid hs
        clear hs Hst1
        with_reducible refine Dr.plan_q (l := [_, _, _, _, _, _, _, _, _]) (by with_unfolding_all exact rfl) (fun K hK => ?_)
        iterate 9 (go_big_quiet_step (fail))
        refine wpQuiet_nil (hK _ ?_); clear hK K
        refine Dr.plan_e_skip rfl (by rfl) ?_; go_frame
        with_reducible refine Dr.plan_q (l := [_, _, _]) (by with_unfolding_all exact rfl) (fun K hK => ?_)
        iterate 3 (go_big_quiet_step (fail))
        refine wpQuiet_nil (hK _ ?_); clear hK K
        refine Dr.plan_end rfl ?_
        clear q0 q1 q2 q3 q4 q5 q6 q7
        clear p6 n1
        go_upto_region 18 with (at_builtin; refine app1 Go.Bs.encI 35 3 1 8 et35 (by decide) (by decide) Go.Bs.encI_len Go.Bs.encI_one rfl _ _ rfl W5.heap.size _ (St z) rfl (ho.alloc _) V1.heap.size rfl (z : Int) (Go.Bs.encI_cell ((Blk.new V1 3 [.int .i64 (z : Int)]).cell rfl)) (by have := hsl; omega) (by have := hbr0.size; simp; omega) ?_; intro g' cap' V2 hown2 hb2 _ _)
        have hbr2 := hbr0.trans (((ext_alloc V1 (.cells #[.int .i64 (z : Int)] 3)).mono hbr0.size).trans hb2)
        go_wp2
        go_roundw
        case rel => exact ⟨z + 1, by go_num, by omega, by rw [Hs.out]; exact hown2, hbr2⟩
        case measure => simp [intOf]; omega
      case neg =>
      have hlm' : ¬ lim < v.x.l.empty + MA := hlmt
      have hlm3 : decide (lim < v.x.l.empty + MA) = false := decide_eq_false hlmt
      with_reducible refine Dr.plan_q (l := [_, _, _, _, _, _, _, _, _]) (by with_unfolding_all exact rfl) (fun K hK => ?_)
      iterate 9 (go_big_quiet_step (fail))
      refine wpQuiet_nil (hK _ ?_); clear hK K
      clear q0 q1 q2 q3 q4 q5 q6 q7
      clear p6 n1
      have CH1 := Lib.hid (CH.out _ hbd A5 F.length c5 F rfl (by omega) Hin.out hcd)
      rw [HHI.out] at CH1
      refine Dr.plan_e rfl (by rfl) (fun K hK => ?_)
      go_wp2_with fail
      refine (CH1.out).mono ?_; rintro e V3 ⟨rfl, hx⟩
      refine hK _ _ (.of hx) ?_; clear hK K
      replace hbd := ext_trans hbd hx
      replace ho := ho.ext hx
      replace hbr0 := hbr0.trans (hx.mono hbr0.size)
      clear CH1 hx
      with_reducible refine Dr.plan_q (l := [_, _, _]) (by with_unfolding_all exact rfl) (fun K hK => ?_)
      iterate 3 (go_big_quiet_step (fail))
      refine wpQuiet_nil (hK _ ?_); clear hK K
      refine Dr.plan_end rfl ?_
      by_cases hcl : clr < v.x.l.deck + HI
      · have hs : St (z + 1) = St z ++ [(z : Int)] := by rw [Hst1.out, decide_eq_true hcl, Bool.or_true, if_pos rfl]
        have Hs := Lib.hid hs
        clear hs Hst1
        go_upto_region 18 with (at_builtin; refine app1 Go.Bs.encI 35 3 1 8 et35 (by decide) (by decide) Go.Bs.encI_len Go.Bs.encI_one rfl _ _ rfl W5.heap.size _ (St z) rfl (ho.alloc _) V3.heap.size rfl (z : Int) (Go.Bs.encI_cell ((Blk.new V3 3 [.int .i64 (z : Int)]).cell rfl)) (by have := hsl; omega) (by have := hbr0.size; simp; omega) ?_; intro g' cap' V2 hown2 hb2 _ _)
        have hbr2 := hbr0.trans (((ext_alloc V3 (.cells #[.int .i64 (z : Int)] 3)).mono hbr0.size).trans hb2)
        go_wp2
        go_roundw
        case rel => exact ⟨z + 1, by go_num, by omega, by rw [Hs.out]; exact hown2, hbr2⟩
        case measure => simp [intOf]; omega
      · have hs : St (z + 1) = St z := by rw [Hst1.out, decide_eq_false (show ¬ clr < v.x.l.deck + HI by omega), decide_eq_false (show ¬ lim < v.x.l.empty + MA by omega), Bool.or_false, if_neg (by decide)]
        have Hs := Lib.hid hs
        clear hs Hst1
        go_wp2
        go_roundw
        case rel => exact ⟨z + 1, by go_num, by omega, by rw [Hs.out]; exact ho, hbr0⟩
        case measure => simp [intOf]; omega
    · obtain rfl : z = q := by omega
      obtain ⟨A1, c1, rfl, -, -, hc1⟩ := ho.cells Go.Bs.encI_len
      have hbf := ext_trans hb hbr
      generalize hln : (St z).length = ln at *
      have Hln := Lib.hid hln
      clear hln
      go_wp2
      go_ret2
      exact StR.mk Hr.out Hln.out hbf hc1
end Go.Proofs.Ytbpmfaibcibleaa

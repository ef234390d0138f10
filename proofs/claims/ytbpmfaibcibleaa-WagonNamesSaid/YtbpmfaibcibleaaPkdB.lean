/- Walk: Packed, of the document. (Printed by mk_pkda.py.) -/
import Derived.Test.YtbpmfaibcibleaaPkdA
import Derived.Test.YtbpmfaibcibleaaLhpG
namespace Go.Proofs.Ytbpmfaibcibleaa
open Go.RowKit Go.Bs Go.Wg Go.Pl Go.Sort
theorem wp_make41 {o : Oper} {a : Act} {w : World} {K : Act → World → Prop} {Q : Exit → Act → World → Prop} (n : Nat) (hn : n ≤ 1000000) {s t : Operand} (ho : o.op = .makeSlice 41 s t) (h1 : a.eval s = .int .i64 (n : Int)) (h2 : a.eval t = .int .i64 (n : Int))
    (h : K (a.put o.dst (.slice (some ⟨w.heap.size, 0, none⟩) n n)) (w.alloc (.cells (List.replicate n (Value.slice none 0 0)).toArray 35))) : o.wp Try.prog a w K Q := by
  unfold Oper.wp
  simp only [execOp, ho, h1, h2, mk41 n hn, Sem.run_bind, Sem.run_pure, Result.andThen_ok]
  exact h
set_option maxRecDepth 100000 in
set_option maxHeartbeats 4000000 in
theorem PackedN_any (A : Option Addr) (n c : Nat) (h ca em re ax dk : Int) (l : List Int) (T : Option Addr) (m cT : Nat) (ts : List Th) (B : Option Addr) (q cB : Nat) (lst : List Int) (ld : Bool) (w : World) (hl : l.length = n) (hj : Lo.Ok ⟨l, h, ca, em, re, ax, dk⟩) (hm : ts.length = m) (hok : ∀ t ∈ ts, t.Ok) (hq : lst.length = q) (hq1 : q ≤ 100) (hin : InR m lst) (hd : Cells w A 1 Go.Bs.encI l) (ht : Cells w T 4 Th.enc ts) (hB : Cells w B 1 Go.Bs.encI lst) :
    Calls Try.prog 30 #[.agg #[.slice A n c, .int .i64 h, .int .i64 ca, .int .i64 em, .int .i64 re, .int .i64 ax, .int .i64 dk], .slice T m cT, .slice B q cB, .bool ld] w (PdR w.heap.size (packL ⟨l, h, ca, em, re, ax, dk⟩ ts lst ld) w) := by
  have h6 := hj.many
  simp only at h6
  have hn6 : n ≤ 6 := by omega
  have Hpl := Lib.hid (refp_pack ⟨l, h, ca, em, re, ax, dk⟩ ts ld lst h6.2 (fun x hx => by
    have h1 := hin x hx
    exact (hok _ (thAt_mem h1.1 (by rw [hm]; exact h1.2))).need.2))
  have C0 := Lib.hid (fun V (hV : Below w.heap.size w V) (N : Option Addr) (cN : Nat) (rs : List RwV) (hr : rs.length = n) (hM : RwM V N rs) (hf : (rows rs).flatten.length = 0) (hri : ∀ x ∈ rs, InR m x.r) (hnw : RwN w.heap.size N rs) => packedR_any w.heap.size A n c h ca em re ax dk l T m cT ts B q cB lst ld n hl hn6 hj.lanes hm hok hq hq1 hin rfl q 0 N cN rs V (by omega) (hd.ext hV) (ht.ext hV) (hB.ext hV) hr hM hf hri hV.size hnw)
  have C2 := Lib.hid (fun V (hV : Below w.heap.size w V) => Masses_any T m cT ts B q cB lst V hm hok (ht.ext hV) hq (by omega) hin (hB.ext hV))
  have C3 := Lib.hid (fun V (hV : Below w.heap.size w V) => Highest_any T m cT ts B q cB lst V hm (ht.ext hV) hq (by omega) hin (hB.ext hV))
  unfold carB at Hpl
  simp only at Hpl
  rw [hl] at Hpl
  generalize packL ⟨l, h, ca, em, re, ax, dk⟩ ts lst ld = res at *
  generalize massL ts lst = MA at *
  generalize highL ts lst = HI at *
  clear hl hj hm hok hq hin hd ht hB h6
  have hb := ext_alloc w (.cells #[.slice A n c, .int .i64 h, .int .i64 ca, .int .i64 em, .int .i64 re, .int .i64 ax, .int .i64 dk] 37)
  have hP := Blk.new w 37 [.slice A n c, .int .i64 h, .int .i64 ca, .int .i64 em, .int .i64 re, .int .i64 ax, .int .i64 dk]
  go_enter Try.func30, Try.ntmps30
  go_upto_region 1 with fail
  change Blk (w.alloc (.cells #[.slice A n c, .int .i64 h, .int .i64 ca, .int .i64 em, .int .i64 re, .int .i64 ax, .int .i64 dk] 37)) _ _ _ at hP
  change Below w.heap.size w (w.alloc (.cells #[.slice A n c, .int .i64 h, .int .i64 ca, .int .i64 em, .int .i64 re, .int .i64 ax, .int .i64 dk] 37)) at hb
  generalize w.alloc (.cells #[.slice A n c, .int .i64 h, .int .i64 ca, .int .i64 em, .int .i64 re, .int .i64 ax, .int .i64 dk] 37) = W0 at *
  refine Dr.wp_region_plan 14 [] (.q [0, 1, 3, 4] (.e1 2 (.q [5, 6, 7, 8, 10, 11] (.e1 9 (.q [12, 13] .done))))) (by kernel_rfl) (by kernel_rfl) ?_
  replace hb := hb.drew
  replace hP := hP.drew
  generalize World.drew W0 = W1 at *
  have q2 := Dr.cell0 (hP.cell (i := 2) rfl)
  with_reducible refine Dr.plan_q (l := [_, _, _, _]) (by with_unfolding_all exact rfl) (fun K hK => ?_)
  iterate 4 (go_big_quiet_step (fail))
  refine wpQuiet_nil (hK _ ?_); clear hK K
  refine Dr.plan_e rfl (by rfl) (fun K hK => ?_)
  go_wp2_with fail
  refine (C2.out _ hb).mono ?_; rintro e W2 ⟨rfl, rfl⟩
  refine hK _ _ (.refl _ _) ?_; clear hK K
  have q1 := Dr.cell0 (hP.cell (i := 1) rfl)
  clear q2 C2
  by_cases hma : MA ≤ ca
  case neg =>
    have hma' : ca < MA := by omega
    have Hr := Lib.hid (show res = none by rw [← Hpl.out, decide_eq_false hma]; rfl)
    with_reducible refine Dr.plan_q (l := [_, _, _, _, _, _]) (by with_unfolding_all exact rfl) (fun K hK => ?_)
    iterate 6 (go_big_quiet_step (fail))
    refine wpQuiet_nil (hK _ ?_); clear hK K
    refine Dr.plan_e_skip rfl (by rfl) ?_; go_frame
    with_reducible refine Dr.plan_q (l := [_, _]) (by with_unfolding_all exact rfl) (fun K hK => ?_)
    iterate 2 (go_big_quiet_step (fail))
    refine wpQuiet_nil (hK _ ?_); clear hK K
    refine Dr.plan_end rfl ?_
    go_wp2
    go_ret2
    exact PdR.no Hr.out hb
  case pos =>
  have hma' : ¬ ca < MA := by omega
  with_reducible refine Dr.plan_q (l := [_, _, _, _, _, _]) (by with_unfolding_all exact rfl) (fun K hK => ?_)
  iterate 6 (go_big_quiet_step (fail))
  refine wpQuiet_nil (hK _ ?_); clear hK K
  refine Dr.plan_e rfl (by rfl) (fun K hK => ?_)
  go_wp2_with fail
  refine (C3.out _ hb).mono ?_; rintro e W3 ⟨rfl, rfl⟩
  refine hK _ _ (.refl _ _) ?_; clear hK K
  clear q1 C3
  with_reducible refine Dr.plan_q (l := [_, _]) (by with_unfolding_all exact rfl) (fun K hK => ?_)
  iterate 2 (go_big_quiet_step (fail))
  refine wpQuiet_nil (hK _ ?_); clear hK K
  refine Dr.plan_end rfl ?_
  by_cases hhi : HI ≤ h
  case neg =>
    have hhi' : h < HI := by omega
    have Hr := Lib.hid (show res = none by rw [← Hpl.out, decide_eq_false hhi, Bool.and_false]; rfl)
    go_wp2
    go_ret2
    exact PdR.no Hr.out hb
  case pos =>
  have hhi' : ¬ h < HI := by omega
  have Hr := Lib.hid (show refp l ts ld lst (List.replicate n []) = res by rw [← Hpl.out, decide_eq_true hma, decide_eq_true hhi]; rfl)
  clear hma hhi Hpl
  go_upto_region 3 with fail
  clear hma' hhi'
  refine Dr.wp_region_plan 13 [] (.q [0, 1, 2, 3, 4, 5, 7] (.e1 6 (.e1 8 (.q [9, 10, 11, 12] .done)))) (by kernel_rfl) (by kernel_rfl) ?_
  replace hb := hb.drew
  replace hP := hP.drew
  generalize World.drew W1 = W4 at *
  have Hw4 := Lib.hid hb.size
  have q0 := Dr.cell0 (hP.cell (i := 0) rfl)
  have q1 := Dr.cell0 (hP.cell (i := 1) rfl)
  have q2 := Dr.cell0 (hP.cell (i := 2) rfl)
  have q3 := Dr.cell0 (hP.cell (i := 3) rfl)
  have q4 := Dr.cell0 (hP.cell (i := 4) rfl)
  have q5 := Dr.cell0 (hP.cell (i := 5) rfl)
  have q6 := Dr.cell0 (hP.cell (i := 6) rfl)
  with_reducible refine Dr.plan_q (l := [_, _, _, _, _, _, _]) (by with_unfolding_all exact rfl) (fun K hK => ?_)
  iterate 7 (go_big_quiet_step (fail))
  refine wpQuiet_nil (hK _ ?_); clear hK K
  clear q0 q1 q2 q3 q4 q5 q6
  have hO := Blk.new W4 35 (List.replicate n (Value.slice none 0 0))
  have hxO := ext_alloc W4 (.cells (List.replicate n (Value.slice none 0 0)).toArray 35)
  have hJ0 := RwJ.start (b0 := W4.heap.size) hO (Nat.le_refl _)
  refine Dr.plan_e rfl (by rfl) (fun K hK => ?_)
  refine wp_make41 n (by omega) rfl rfl rfl ?_
  refine hK _ _ (.of (ext_alloc _ _)) ?_; clear hK K
  go_frame
  change RwJ _ (W4.alloc (.cells (List.replicate n (Value.slice none 0 0)).toArray 35)) _ _ _ at hJ0
  clear hO
  generalize W4.alloc (.cells (List.replicate n (Value.slice none 0 0)).toArray 35) = W5 at *
  replace hb := ext_trans hb hxO
  obtain ⟨rs, hrs, hM, hlr, hnw⟩ := hJ0.rows
  have hW4 : w.heap.size ≤ W4.heap.size := Hw4.out
  have hnw2 : RwN w.heap.size (some ⟨W4.heap.size, 0, none⟩) rs := ⟨fun k hk => by simp at hk; omega, fun x hx k hk => by have := hnw x hx k hk; omega⟩
  have hlr2 : rs.length = n := by rw [hlr, List.length_replicate]
  have hfl : (rows rs).flatten.length = 0 := by rw [hrs]; simp
  have hin0 : ∀ x ∈ rs, InR m x.r := fun x hx => by
    have h5 : x.r ∈ List.replicate n ([] : List Int) := by rw [← hrs]; exact List.mem_map.2 ⟨x, hx, rfl⟩
    rw [(List.mem_replicate.1 h5).2]
    intro y hy
    cases hy
  have CP := C0.out W5 hb (some ⟨W4.heap.size, 0, none⟩) n rs hlr2 hM hfl hin0 hnw2
  rw [hrs, List.drop_zero, Hr.out] at CP
  replace CP := Lib.hid CP
  clear hnw hnw2 hW4 hJ0 hrs hM hlr hlr2 hfl hin0 C0 hxO
  refine Dr.plan_e rfl (by rfl) (fun K hK => ?_)
  go_wp2_with fail
  refine CP.out.mono ?_; rintro e W6 ⟨hx, hres⟩
  replace hb := ext_trans hb hx
  cases res with
  | none =>
    subst hres
    refine hK _ _ (.of hx) ?_; clear hK K
    with_reducible refine Dr.plan_q (l := [_, _, _, _]) (by with_unfolding_all exact rfl) (fun K hK => ?_)
    iterate 4 (go_big_quiet_step (fail))
    refine wpQuiet_nil (hK _ ?_); clear hK K
    refine Dr.plan_end rfl ?_
    go_wp2
    go_ret2
    exact PdR.no rfl hb
  | some P =>
    obtain ⟨A9, c9, rs9, rfl, hr9, hM9, hN9⟩ := hres
    refine hK _ _ (.of hx) ?_; clear hK K
    with_reducible refine Dr.plan_q (l := [_, _, _, _]) (by with_unfolding_all exact rfl) (fun K hK => ?_)
    iterate 4 (go_big_quiet_step (fail))
    refine wpQuiet_nil (hK _ ?_); clear hK K
    refine Dr.plan_end rfl ?_
    go_wp2
    go_ret2
    exact PdR.yes rfl rfl hb hr9 hM9 hN9
end Go.Proofs.Ytbpmfaibcibleaa

/- Walk: spend, Spend, CheckRoad. -/
import Derived.Deep.DeepCutAuto
import Derived.Test.YtopfhinnamhoiaaRoadS
namespace Go.Proofs.Ytopfhinnamhoiaa
open Go.RowKit Go.Bs Go.Yd Go.Pl Go.Sort

theorem res2 {fn : Func} {t u : Tmp} (h : fn.results = #[.tmp t, .tmp u]) (tmps : Array Value) (P : Program) (w : World) :
    (results fn tmps).run P w = .ok (.tuple #[tmps.getD t undef, tmps.getD u undef]) w := by simp [results, h]

set_option maxRecDepth 100000 in
set_option maxHeartbeats 2000000 in
theorem spend_any (r : Rd) (hok : r.ok) (A : Option Addr) (n cap : Nat) (l : List Int) (B : Option Addr) (m mc : Nat) (w : World) (hp : PlanOk r l) (hn : r.days.length = n) (hcap : n ≤ cap) (hl : l.length = m) (hm : m ≤ 40) (hd : RdAt w A r) (hv : Cells w B 1 encI l) :
    Calls Try.prog 89 #[.agg #[.slice A n cap, .int .i64 r.keep], .slice B m mc] w fun e w' => e = .returned (.int .i64 (spN r l m)) ∧ Below w.heap.size w w' := by
  have hb0 := ext_alloc w (.cells #[.slice A n cap, .int .i64 r.keep] 92)
  have hB := Blk.new w 92 [.slice A n cap, .int .i64 r.keep]
  have hlen := hok.1
  have Hn := Lib.hid hn
  have Hl := Lib.hid hl
  have hqb : ∀ i, i < m → qd r l i < qd r l (i + 1) ∧ qd r l (i + 1) ≤ n := fun i hi => by
    have h1 := hp.q_inc (i := i) (by omega)
    have h2 := hp.rng i (by omega)
    by_cases h3 : i + 1 < m
    · have := hp.q_lt (i := i + 1) (by omega); omega
    · have e2 : qd r l (i + 1) = r.days.length := qd_end (by rw [hl]; omega)
      rw [e2] at h1 ⊢; omega
  have hbd := fun k hk => hp.spN_bd hok k hk
  have hpr : ∀ i, i < m → 0 ≤ r.price (qd r l i) (qd r l (i + 1)) ∧ r.price (qd r l i) (qd r l (i + 1)) ≤ 300100000 := fun i hi => Rd.price_nonneg hok (hp.q_lt (i := i) (by omega)) _
  rw [hl] at hbd
  have Hqb := Lib.hid hqb
  have Hbd := Lib.hid hbd
  have Hpr := Lib.hid hpr
  have Hrng := Lib.hid (fun i h => (hp.rng i h).1)
  clear hqb hbd hpr
  go_enter Try.func89, Try.ntmps89
  go_upto_region 1 with fail
  change Blk (w.alloc (.cells #[.slice A n cap, .int .i64 r.keep] 92)) w.heap.size 92 [.slice A n cap, .int .i64 r.keep] at hB
  generalize w.alloc (.cells #[.slice A n cap, .int .i64 r.keep] 92) = W0 at *
  go_wp2
  go_loopw [4, 9] (fun c x wr => ∃ k : Nat, x = .int .i64 k ∧ k ≤ m ∧ c = .int .i64 (spN r l k) ∧ Below w.heap.size w wr ∧ Blk wr w.heap.size 92 [.slice A n cap, .int .i64 r.keep]) (fun _ x _ => m - (intOf x).toNat)
  case atStart => exact ⟨0, rfl, by omega, rfl, hb0, hB⟩
  case round =>
    clear hb0 hB
    obtain ⟨k, rfl, hk, rfl, hb, hB⟩ := hrel
    by_cases hlt : k < m
    · have hlt' : (k : Int) < (m : Int) := by omega
      have hk0 : (0 : Int) ≤ (k : Int) := by omega
      have hil : k < l.length := by rw [Hl.out]; exact hlt
      have hqb := Hqb.out k hlt
      have hbd := Hbd.out k hk
      have hpr := Hpr.out k hlt
      have hU := until_q Hl.out Hn.out Hrng.out k (r := r)
      have hq : l[k] = ((qd r l k : Nat) : Int) := by rw [qd_at hil]; have := Hrng.out k hil; omega
      have hsp : spN r l (k + 1) = spN r l k + r.price (qd r l k) (qd r l (k + 1)) := rfl
      obtain ⟨bv, ov, rfl, -, e0⟩ := (hv.ext hb).at1 hil rfl
      rw [hq] at e0
      have hUc := fun W (hc : Cells W (some ⟨bv, ov, none⟩) 1 encI l) => until_any l (some ⟨bv, ov, none⟩) m mc A n cap r.keep k W Hl.out hm hlt hc
      rw [hU] at hUc
      have HUc := Lib.hid hUc
      have Hsp := Lib.hid hsp
      clear hU hq hUc hsp
      generalize qd r l k = qa at *
      generalize qd r l (k + 1) = qb at *
      go_upto_region 4 with fail
      clear e0
      generalize spN r l k = sp at *
      refine Dr.wp_region_plan 10 [] (.q [0, 1, 2, 3, 4, 5] (.e1 6 (.e1 7 (.q [8, 9] .done)))) (by kernel_rfl) (by kernel_rfl) ?_
      have hb1 := hb.drew
      have hB1 := hB.ext (ext_drew wr)
      clear hb hB
      generalize World.drew _ = W at *
      have q0 := Dr.cell0 (hB1.cell (i := 0) rfl)
      have q1 := Dr.cell0 (hB1.cell (i := 1) rfl)
      refine Dr.plan_q (l := [_, _, _, _, _, _]) rfl (fun K hK => ?_)
      iterate 6 (go_big_quiet_step (fail))
      refine wpQuiet_nil (hK _ ?_); clear hK K
      refine Dr.plan_e rfl (by rfl) (fun K hK => ?_)
      go_wp2_with fail
      refine (HUc.out W (hv.ext hb1)).mono ?_; rintro e w1 ⟨rfl, hb2⟩
      refine hK _ _ (.of hb2) ?_; clear hK K
      refine Dr.plan_e rfl (by rfl) (fun K hK => ?_)
      go_wp2_with fail
      refine (price_any r A n cap qa qb w1 hok Hn.out hcap hqb.1 hqb.2 (hd.ext (ext_trans hb1 hb2))).mono ?_; rintro e w2 ⟨rfl, hb3⟩
      refine hK _ _ (.of hb3) ?_; clear hK K
      have hb4 := ext_trans (ext_trans hb1 hb2) hb3
      have hB4 := (hB1.ext hb2).ext hb3
      clear hb1 hb2 hb3 hB1 q0 q1
      generalize r.price qa qb = pr at *
      refine Dr.plan_q (l := [_, _]) rfl (fun K hK => ?_)
      iterate 2 (go_big_quiet_step (fail))
      refine wpQuiet_nil (hK _ ?_); clear hK K
      refine Dr.plan_end rfl ?_
      go_wp2
      go_roundw
      case rel => exact ⟨k + 1, by go_num, by omega, int_congr Hsp.out.symm, hb4, hB4⟩
      case measure => simp [intOf]; omega
    · obtain rfl : k = m := by omega
      go_wp2
      go_ret
      exact ⟨rfl, hb⟩

/-- what Spend returns -/
noncomputable def spendR (r : Rd) (l : List Int) : Int × Int := by
  classical exact if r.okB = true then (if PlanOk r l then (spN r l l.length, 0) else (0, 2)) else (0, 1)
theorem spendR_bad {r : Rd} (h : r.okB = false) (l : List Int) : spendR r l = (0, 1) := by unfold spendR; rw [h]; rfl
theorem spendR_no {r : Rd} (h : r.okB = true) {l : List Int} (hp : ¬ PlanOk r l) : spendR r l = (0, 2) := by unfold spendR; rw [if_pos h, if_neg hp]
theorem spendR_ok {r : Rd} (h : r.okB = true) {l : List Int} (hp : PlanOk r l) : spendR r l = (spN r l l.length, 0) := by unfold spendR; rw [if_pos h, if_pos hp]

set_option maxRecDepth 100000 in
set_option maxHeartbeats 2000000 in
theorem Spend_any (r : Rd) (A : Option Addr) (n cap : Nat) (l : List Int) (B : Option Addr) (m mc : Nat) (w : World) (hn : r.days.length = n) (hm1 : n ≤ 9223372036854775807) (hcap : n ≤ cap) (hl : l.length = m) (hm : m ≤ 40) (hd : RdAt w A r) (hv : Cells w B 1 encI l) :
    Calls Try.prog 51 #[.agg #[.slice A n cap, .int .i64 r.keep], .slice B m mc] w fun e w' => e = .returned (.tuple #[.int .i64 (spendR r l).1, .int .i64 (spendR r l).2]) ∧ Below w.heap.size w w' := by
  have hb0 := ext_alloc w (.cells #[.slice A n cap, .int .i64 r.keep] 92)
  have HV := Lib.hid (rvalid_any r A n cap _ hn hm1 (hd.ext hb0))
  cases hv0 : r.okB
  · have HR := Lib.hid (spendR_bad hv0 l)
    rw [hv0] at HV
    clear hv0 hn hm hcap hd
    go_enter Try.func51, Try.ntmps51
    go_wp2_with fail
    refine HV.out.mono ?_; rintro e w1 ⟨rfl, hb1⟩
    go_wp2
    rw [HR.out]
    refine bodyPost_ret (res2 rfl _ _ _) rfl ?_
    exact ⟨rfl, ext_trans hb0 hb1⟩
  · have hok := (Rd.okB_iff r).1 hv0
    rw [hv0] at HV
    have HP : ∃ p : Bool, (p = true ↔ PlanOk r l) := by classical exact ⟨decide (PlanOk r l), by simp⟩
    obtain ⟨p, hp⟩ := HP
    cases p
    · have HR := Lib.hid (spendR_no hv0 (fun h => by have := hp.2 h; cases this))
      have Hp := Lib.hid hp
      clear hv0 hp
      go_enter Try.func51, Try.ntmps51
      go_wp2_with fail
      refine HV.out.mono ?_; rintro e w1 ⟨rfl, hb1⟩
      have hb2 := ext_trans hb0 hb1
      have hx0 : w1.cell? ⟨w.heap.size, 0, none⟩ = some (.slice A n cap) := cell_ext (by simp) hb1
      have hx1 : w1.cell? ⟨w.heap.size, 1, none⟩ = some (.int .i64 r.keep) := cell_ext (by simp) hb1
      clear hb0 hb1
      go_wp2_with fail
      refine (planned_any r hok A n cap l B m mc w1 false Hp.out hn hcap hl hm (hd.ext hb2) (hv.ext hb2)).mono ?_; rintro e w2 ⟨rfl, hb3⟩
      go_wp2
      rw [HR.out]
      refine bodyPost_ret (res2 rfl _ _ _) rfl ?_
      exact ⟨rfl, ext_trans hb2 hb3⟩
    · have hpo := hp.1 rfl
      have HR := Lib.hid (spendR_ok hv0 hpo)
      clear hv0 hp
      go_enter Try.func51, Try.ntmps51
      go_wp2_with fail
      refine HV.out.mono ?_; rintro e w1 ⟨rfl, hb1⟩
      have hb2 := ext_trans hb0 hb1
      have hx0 : w1.cell? ⟨w.heap.size, 0, none⟩ = some (.slice A n cap) := cell_ext (by simp) hb1
      have hx1 : w1.cell? ⟨w.heap.size, 1, none⟩ = some (.int .i64 r.keep) := cell_ext (by simp) hb1
      clear hb0 hb1
      go_wp2_with fail
      refine (planned_any r hok A n cap l B m mc w1 true ⟨fun _ => hpo, fun _ => rfl⟩ hn hcap hl hm (hd.ext hb2) (hv.ext hb2)).mono ?_; rintro e w2 ⟨rfl, hb3⟩
      have hb4 := ext_trans hb2 hb3
      have hy0 : w2.cell? ⟨w.heap.size, 0, none⟩ = some (.slice A n cap) := cell_ext hx0 hb3
      have hy1 : w2.cell? ⟨w.heap.size, 1, none⟩ = some (.int .i64 r.keep) := cell_ext hx1 hb3
      clear hb2 hb3 hx0 hx1
      go_wp2_with fail
      refine (spend_any r hok A n cap l B m mc w2 hpo hn hcap hl hm (hd.ext hb4) (hv.ext hb4)).mono ?_; rintro e w3 ⟨rfl, hb5⟩
      rw [← hl] at *
      generalize spN r l l.length = sp at *
      go_wp2
      rw [HR.out]
      refine bodyPost_ret (res2 rfl _ _ _) rfl ?_
      exact ⟨rfl, ext_trans hb4 hb5⟩

set_option maxHeartbeats 1000000 in
theorem CheckRoad_any (r : Rd) (A : Option Addr) (n cap : Nat) (w : World) (hn : r.days.length = n) (hm1 : n ≤ 9223372036854775807) (hd : RdAt w A r) :
    Calls Try.prog 55 #[.agg #[.slice A n cap, .int .i64 r.keep]] w fun e w' => e = .returned (.int .i64 (if r.okB = true then 0 else 1)) ∧ Below w.heap.size w w' := by
  have hb0 := ext_alloc w (.cells #[.slice A n cap, .int .i64 r.keep] 92)
  have HV := Lib.hid (rvalid_any r A n cap _ hn hm1 (hd.ext hb0))
  generalize r.okB = ok at *
  go_enter Try.func55, Try.ntmps55
  go_wp2_with fail
  refine HV.out.mono ?_; rintro e w1 ⟨rfl, hb1⟩
  cases ok
  · go_wp2
    go_ret
    exact ⟨rfl, ext_trans hb0 hb1⟩
  · go_wp2
    go_ret
    exact ⟨rfl, ext_trans hb0 hb1⟩
end Go.Proofs.Ytopfhinnamhoiaa

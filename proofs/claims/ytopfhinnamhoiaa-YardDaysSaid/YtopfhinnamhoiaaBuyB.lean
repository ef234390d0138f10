/- Walk: Buy, CheckRoad. -/
import Derived.Test.YtopfhinnamhoiaaFour
import Derived.Test.YtopfhinnamhoiaaPlanA
import Derived.Test.YtopfhinnamhoiaaRoadB
namespace Go.Proofs.Ytopfhinnamhoiaa
open Go.RowKit Go.Bs Go.Yd Go.Pl Go.Sort

/-- What Buy hands back: the days, the cost, the table, the error. -/
def buyR (r : Rd) : List Int × Int × List Int × Int :=
  if r.okB then (if r.tbl 0 < 1000000000 then (natsI r.planN, r.tbl 0, tab (r.days.length + 1) r.tbl, 0) else ([], 0, [], 7)) else ([], 0, [], 1)
def BuyOut (R : List Int × Int × List Int × Int) (w : World) (e : Ending) (w' : World) : Prop :=
  ∃ v x, e = .returned (.tuple #[v, .int .i64 R.2.1, x, .int .i64 R.2.2.2]) ∧ FreshL w w' 1 encI v R.1 ∧ FreshL w w' 1 encI x R.2.2.1 ∧ Below w.heap.size w w'

set_option maxRecDepth 100000 in
set_option maxHeartbeats 1000000 in
theorem Buy_any (r : Rd) (A : Option Addr) (n cap : Nat) (w : World) (hn : r.days.length = n) (hm : n ≤ 9223372036854775807) (hcap : n ≤ cap) (hd : RdAt w A r) :
    Calls Try.prog 54 #[.agg #[.slice A n cap, .int .i64 r.keep]] w (BuyOut (buyR r) w) := by
  have hb0 := ext_alloc w (.cells #[.slice A n cap, .int .i64 r.keep] 92)
  have HV := Lib.hid (rvalid_any r A n cap _ hn hm (hd.ext hb0))
  cases hv : r.okB
  · have hR : buyR r = ([], 0, [], 1) := by unfold buyR; rw [hv]; rfl
    have HR := Lib.hid hR
    rw [hv] at HV
    clear hv hR hn hm hcap hd
    go_enter Try.func54, Try.ntmps54
    go_wp2_with fail
    refine HV.out.mono ?_; rintro e w1 ⟨rfl, hb1⟩
    go_wp2
    rw [HR.out]
    refine bodyPost_ret (res4 rfl _ _ _) rfl ?_
    exact ⟨_, _, rfl, FreshL.nil _ _ _ _, FreshL.nil _ _ _ _, ext_trans hb0 hb1⟩
  · have hok := (Rd.okB_iff r).1 hv
    have Hv := Lib.hid hv
    rw [hv] at HV
    clear hv
    go_enter Try.func54, Try.ntmps54
    go_wp2_with fail
    refine HV.out.mono ?_; rintro e w1 ⟨rfl, hb1⟩
    have hb2 := ext_trans hb0 hb1
    have hx0 : w1.cell? ⟨w.heap.size, 0, none⟩ = some (.slice A n cap) := cell_ext (by simp) hb1
    have hx1 : w1.cell? ⟨w.heap.size, 1, none⟩ = some (.int .i64 r.keep) := cell_ext (by simp) hb1
    clear hb0 hb1
    go_wp2_with fail
    refine (buy_any r A n cap _ hok hn hcap (hd.ext hb2)).mono ?_
    rintro e w2 ⟨Bf, Bt, rfl, hb3, hF, hG, hf, hg, hfg⟩
    have hb4 := ext_trans hb2 hb3
    have hb2' := hb2
    clear hb2 hb3 hx0 hx1
    go_upto_region 4 with fail
    have hF3 := hF.ext (ext_alloc w2 (.cells #[.slice A n cap, .int .i64 r.keep, .slice (some ⟨Bf, 0, none⟩) (n + 1) (n + 1), .slice (some ⟨Bt, 0, none⟩) (n + 1) (n + 1)] 148))
    have hG3 := hG.ext (ext_alloc w2 (.cells #[.slice A n cap, .int .i64 r.keep, .slice (some ⟨Bf, 0, none⟩) (n + 1) (n + 1), .slice (some ⟨Bt, 0, none⟩) (n + 1) (n + 1)] 148))
    have hb5 := ext_trans hb4 (ext_alloc w2 (.cells #[.slice A n cap, .int .i64 r.keep, .slice (some ⟨Bf, 0, none⟩) (n + 1) (n + 1), .slice (some ⟨Bt, 0, none⟩) (n + 1) (n + 1)] 148))
    generalize hW : w2.alloc (.cells #[.slice A n cap, .int .i64 r.keep, .slice (some ⟨Bf, 0, none⟩) (n + 1) (n + 1), .slice (some ⟨Bt, 0, none⟩) (n + 1) (n + 1)] 148) = W at *
    have x0 : W.cell? ⟨w2.heap.size, 0, none⟩ = some (.slice A n cap) := by rw [← hW]; simp
    have x1 : W.cell? ⟨w2.heap.size, 1, none⟩ = some (.int .i64 r.keep) := by rw [← hW]; simp
    have x2 : W.cell? ⟨w2.heap.size, 2, none⟩ = some (.slice (some ⟨Bf, 0, none⟩) (n + 1) (n + 1)) := by rw [← hW]; simp
    have x3 : W.cell? ⟨w2.heap.size, 3, none⟩ = some (.slice (some ⟨Bt, 0, none⟩) (n + 1) (n + 1)) := by rw [← hW]; simp
    have t0 : W.cell? ⟨Bt, 0, none⟩ = some (.int .i64 (r.tbl 0)) := hG3.cell (tab_get _ (by omega))
    have hgw : w.heap.size ≤ Bt := Nat.le_trans hb2'.size hg
    clear hW hF hG hb4 hf hg hfg
    have hp0 : (0 : Int) < (n : Int) + 1 := by omega
    by_cases hM : r.tbl 0 < 1000000000
    · have hR : buyR r = (natsI r.planN, r.tbl 0, tab (n + 1) r.tbl, 0) := by unfold buyR; rw [Hv.out, if_pos rfl, if_pos hM, hn]
      have HR := Lib.hid hR
      clear hR
      go_wp2
      refine Dr.wp_region_plan 12 [] (.q [0, 2, 3, 4, 5, 6, 7] (.e1 1 (.q [8, 9, 10, 11] .done))) (by kernel_rfl) (by kernel_rfl) ?_
      have hb6 := hb5.drew
      have hF4 := hF3.ext (ext_drew W)
      have hG4 := hG3.ext (ext_drew W)
      have q0 := Dr.cell0 (cell_ext x0 (ext_drew W))
      have q1 := Dr.cell0 (cell_ext x1 (ext_drew W))
      have q2 := Dr.cell0 (cell_ext x2 (ext_drew W))
      have q3 := Dr.cell0 (cell_ext x3 (ext_drew W))
      have q4 := Dr.cell0 (cell_ext t0 (ext_drew W))
      clear x0 x1 x2 x3 t0 hb5 hF3 hG3
      generalize World.drew _ = W1 at *
      refine Dr.plan_q (l := [_, _, _, _, _, _, _]) rfl (fun K hK => ?_)
      iterate 7 (go_big_quiet_step (fail))
      refine wpQuiet_nil (hK _ ?_); clear hK K
      refine Dr.plan_e rfl (by rfl) (fun K hK => ?_)
      go_wp2_with fail
      refine (plan_any r A n cap Bf Bt W1 hok hn hcap (hd.ext hb6) hF4 hG4 hM).mono ?_; rintro e w3 ⟨v, rfl, hfr, hb7⟩
      refine hK _ _ (.of hb7) ?_; clear hK K
      refine Dr.plan_q (l := [_, _, _, _]) rfl (fun K hK => ?_)
      iterate 4 (go_big_quiet_step (fail))
      refine wpQuiet_nil (hK _ ?_); clear hK K
      refine Dr.plan_end rfl ?_
      clear q0 q1 q2 q3 q4
      have hc := (hG4.ext hb7).cells
      have hlt : Bt < w3.heap.size := cell_lt ((hG4.ext hb7).cell (i := 0) (tab_get _ (by omega)))
      go_wp2
      rw [HR.out]
      refine bodyPost_ret (res4 rfl _ _ _) rfl ?_
      refine ⟨v, _, rfl, hfr.older hb6.size, ⟨some ⟨Bt, 0, none⟩, n + 1, by simp [tab_len], by simp [tab_len], by have h30 := hok.1; rw [hn] at h30; unfold maxLen; omega, hc, ?_⟩, ext_trans hb6 hb7⟩
      intro k hk
      simp at hk
      omega
    · have hR : buyR r = ([], 0, [], 7) := by unfold buyR; rw [Hv.out, if_pos rfl, if_neg hM]
      have HR := Lib.hid hR
      clear hR
      have hM' : (1000000000 : Int) ≤ r.tbl 0 := by omega
      go_wp2
      rw [HR.out]
      refine bodyPost_ret (res4 rfl _ _ _) rfl ?_
      exact ⟨_, _, rfl, FreshL.nil _ _ _ _, FreshL.nil _ _ _ _, hb5⟩
end Go.Proofs.Ytopfhinnamhoiaa

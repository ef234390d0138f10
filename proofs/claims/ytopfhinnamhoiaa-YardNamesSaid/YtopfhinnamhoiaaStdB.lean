/- Walk: the reference's grown and Stand; few; CheckYard. -/
import Derived.Deep.DeepCutAuto
import Derived.Maps.RangeWalk
import Derived.Test.YtopfhinnamhoiaaStdA
namespace Go.Proofs.Ytopfhinnamhoiaa
open Go.RowKit Go.Bs Go.Yd Go.Pl Go.Sort

def GrPost (R : Option (List Int)) (w : World) (e : Ending) (w' : World) : Prop :=
  ∃ A c, e = .returned (.tuple #[.slice A (R.getD []).length c, .bool R.isSome]) ∧ Cells w' A 1 encI (R.getD []) ∧ Below w.heap.size w w'

set_option maxRecDepth 100000 in
set_option maxHeartbeats 2000000 in
theorem grown_any (y : Yrd) (hok : Yrd.okB y = true) (A1 A2 A3 : Option Addr) (n1 n2 n3 c1 c2 c3 : Nat) (h1 : y.boxes.length = n1) (h2 : y.needs.length = n2) (h3 : y.foes.length = n3) : ∀ (m : Nat) (at_ : List Int) (V : Option Addr) (cm : Nat) (w : World), at_.length + m = n2 → YdAt w y A1 A2 A3 → Cells w V 1 encI at_ →
    Calls Try.prog 86 #[.agg #[.slice A1 n1 c1, .slice A2 n2 c2, .slice A3 n3 c3], .slice V at_.length cm] w (GrPost (grownG y m at_) w) := by
  intro m
  induction m with
  | zero =>
    intro at_ V cm w hm hd hv
    obtain ⟨q, hq⟩ : ∃ q, at_.length = q := ⟨_, rfl⟩
    rw [hq]
    obtain rfl : q = n2 := by omega
    have hb0 := ext_alloc w (.cells #[.slice A1 n1 c1, .slice A2 q c2, .slice A3 n3 c3] 57)
    have hB := Blk.new w 57 [.slice A1 n1 c1, .slice A2 q c2, .slice A3 n3 c3]
    have hG : grownG y 0 at_ = if arrP y (foeL y.foes) n1 [] at_ then some at_ else none := by unfold grownG; rw [h1]; rfl
    have HG := Lib.hid hG
    have Hq := Lib.hid hq
    clear hG
    have HS := Lib.hid (StandsR_any y hok A1 A2 A3 V n1 q n3 c1 c2 c3 q cm at_ _ h1 h2 h3 hq (Nat.le_refl _) (hd.ext hb0) (hv.ext hb0))
    cases ha : arrP y (foeL y.foes) n1 [] at_
    · rw [ha] at HS HG
      clear ha hm hq
      go_enter Try.func86, Try.ntmps86
      go_wp2_with fail
      refine HS.out.mono ?_; rintro e w1 ⟨rfl, hb1⟩
      go_wp2
      go_ret2
      rw [HG.out]
      exact ⟨none, 0, rfl, Cells.nil, ext_trans hb0 hb1⟩
    · rw [ha] at HS HG
      clear ha hm hq
      go_enter Try.func86, Try.ntmps86
      go_wp2_with fail
      refine HS.out.mono ?_; rintro e w1 ⟨rfl, hb1⟩
      have hB2 := hB.ext hb1
      have x1 : w1.cell? ⟨w.heap.size, 1, none⟩ = _ := hB2.cell rfl
      go_wp2
      go_ret2
      rw [HG.out]
      exact ⟨V, cm, by simp only [if_true, Option.getD_some, Hq.out]; rfl, (hv.ext hb0).ext hb1, ext_trans hb0 hb1⟩
  | succ m ih =>
    intro at_ V cm w hm hd hv
    obtain ⟨q, hq⟩ : ∃ q, at_.length = q := ⟨_, rfl⟩
    rw [hq]
    have hqn : q < n2 := by omega
    have hb0 := ext_alloc w (.cells #[.slice A1 n1 c1, .slice A2 n2 c2, .slice A3 n3 c3] 57)
    have hB := Blk.new w 57 [.slice A1 n1 c1, .slice A2 n2 c2, .slice A3 n3 c3]
    obtain ⟨k1, k2, k3, -, -, k6⟩ := Yrd.okB_spec hok
    rw [h1] at k1
    rw [h2] at k2
    have IH := Lib.hid ih
    have H1 := Lib.hid h1
    have HS := Lib.hid (StandsR_any y hok A1 A2 A3 V n1 n2 n3 c1 c2 c3 q cm at_ _ h1 h2 h3 hq (by omega) (hd.ext hb0) (hv.ext hb0))
    clear k6 ih
    cases ha : arrP y (foeL y.foes) n1 [] at_
    · have HG := Lib.hid (show grownG y (m + 1) at_ = none by unfold grownG; rw [h1, ha]; rfl)
      rw [ha] at HS
      clear ha hm hq
      go_enter Try.func86, Try.ntmps86
      go_wp2_with fail
      refine HS.out.mono ?_; rintro e w1 ⟨rfl, hb1⟩
      go_wp2
      go_ret2
      rw [HG.out]
      exact ⟨none, 0, rfl, Cells.nil, ext_trans hb0 hb1⟩
    · have HA := Lib.hid (show arrP y (foeL y.foes) y.boxes.length [] at_ = true by rw [h1]; exact ha)
      rw [ha] at HS
      have hne : ((q : Int) == (n2 : Int)) = false := by simp; omega
      clear ha
      generalize hG : grownG y (m + 1) at_ = G
      have HG := Lib.hid hG
      clear hG
      go_enter Try.func86, Try.ntmps86
      go_wp2_with fail
      refine HS.out.mono ?_; rintro e w1 ⟨rfl, hb1⟩
      have hB2 := hB.ext hb1
      have hb2 := ext_trans hb0 hb1
      have x1 : w1.cell? ⟨w.heap.size, 1, none⟩ = _ := hB2.cell rfl
      clear hb0 hb1 hB HS
      go_wp2
      go_loopw [6] (fun x wr => ∃ j : Nat, x = .int .i64 j ∧ j ≤ n1 ∧ Hid (∀ q' : Nat, q' < j → grownG y m (at_ ++ [(q' : Int)]) = none) ∧ Below w.heap.size w wr ∧ Blk wr w.heap.size 57 [.slice A1 n1 c1, .slice A2 n2 c2, .slice A3 n3 c3]) (fun x _ => n1 - (intOf x).toNat)
      case atStart => exact ⟨0, rfl, by omega, Lib.hid (fun q' h => by omega), hb2, hB2⟩
      case round =>
        clear hb2 hB2 x1
        obtain ⟨j, rfl, hj, Hj, hW0, hB0⟩ := hrel
        have x0 : wr.cell? ⟨w.heap.size, 0, none⟩ = _ := hB0.cell rfl
        by_cases hlt : j < n1
        · have hlt' : (j : Int) < (n1 : Int) := by omega
          go_upto_region 8 with fail
          go_cut [7, 8] (fun u v W' => ∃ A c, u = .slice A ((grownG y m (at_ ++ [(j : Int)])).getD []).length c ∧ v = .bool (grownG y m (at_ ++ [(j : Int)])).isSome ∧ Cells W' A 1 encI ((grownG y m (at_ ++ [(j : Int)])).getD []) ∧ Below w.heap.size w W' ∧ Blk W' w.heap.size 57 [.slice A1 n1 c1, .slice A2 n2 c2, .slice A3 n3 c3])
          case first =>
            refine Dr.wp_region_plan 13 [wr.heap.size, wr.heap.size + 1, wr.heap.size + 2, wr.heap.size + 3] (.q [0, 2, 4] (.e2 1 (.e2 3 (.e1 5 (.e1 6 (.e1 7 (.q [8, 9, 10, 11, 12] .done)))) 5 (.e1 3 (.e1 6 (.e1 7 (.q [8, 9, 10, 11, 12] .done))))) 5 (.e1 1 (.e1 3 (.e1 6 (.e1 7 (.q [8, 9, 10, 11, 12] .done))))))) (by kernel_rfl) (by kernel_rfl) ?_
            have hb1 := ext_drew wr
            have hB1 := hB0.ext (ext_drew wr)
            have hsW : wr.drew.heap.size = wr.heap.size := rfl
            have hlw := hB1.lt
            generalize World.drew _ = W at *
            rw [← hsW]
            have q0 := Dr.cls_cell (M := [W.heap.size, W.heap.size + 1, W.heap.size + 2, W.heap.size + 3]) (hB1.cell (i := 0) rfl) (by simp; omega)
            have q1 := Dr.cls_cell (M := [W.heap.size, W.heap.size + 1, W.heap.size + 2, W.heap.size + 3]) (hB1.cell (i := 1) rfl) (by simp; omega)
            have q2 := Dr.cls_cell (M := [W.heap.size, W.heap.size + 1, W.heap.size + 2, W.heap.size + 3]) (hB1.cell (i := 2) rfl) (by simp; omega)
            have HsW := Lib.hid hsW
            clear hsW x0
            refine Dr.plan_q (l := [_, _, _]) rfl (fun K hK => ?_)
            iterate 3 (go_big_quiet_step (fail))
            refine wpQuiet_nil (hK _ ?_); clear hK K
            clear q0 q1 q2
            refine Dr.plan_e2 ?_ ?_
            · refine Dr.plan_e rfl (by rfl) (fun K hK => ?_)
              go_wp2_with fail
              refine hK _ _ (.of (ext_alloc _ _)) ?_; clear hK K
              have ow1 := own_new (α := Int) W 3 1 encI
              have zs1 : (W.alloc (.cells #[] 3)).heap.size = W.heap.size + 1 := by simp
              have hc1 := ext_alloc W (.cells #[] 3)
              have hb_1 := ext_trans hb1 hc1
              have hB_1 := hB1.ext hc1
              refine Dr.plan_e2 ?_ ?_
              · refine Dr.plan_e rfl (by rfl) (fun K hK => ?_)
                refine wp_app_rows encI 24 3 1 8 et24 (by decide) (by decide) encI_len encI_one _ _ rfl W.heap.size (.slice (some ⟨W.heap.size, 0, none⟩) 0 0) [] rfl ow1 V q cm at_ hq rfl (hv.ext (ext_trans hW0 hb_1)) (by simp; omega) (by simp <;> omega) ?_
                intro v2 w2 hown2 hbl2 hgr2 hat2
                rw [List.nil_append] at hown2
                have hM2 : ∀ b, v2.ownBlock = some b → b = W.heap.size ∨ b = W.heap.size + 1 ∨ b = W.heap.size + 2 := fun b hb => by
                  rcases hat2 with ⟨rfl, _⟩ | ⟨g, cc, rfl, hg⟩
                  · simp [Value.ownBlock] at hb; omega
                  · simp [Value.ownBlock] at hb; subst hb
                    rcases hg with hg | hg
                    · simp [Value.ownBlock] at hg; omega
                    · simp at hg; omega
                refine hK _ _ ⟨hgr2.os, hgr2.tape, hgr2.output, hgr2.size, fun k hk hm => hgr2.block k hk (fun e => hm (by simp [Value.ownBlock] at e; simp [e]))⟩ ?_; clear hK K
                go_frame
                have zs2 := hgr2.size
                have hb_2 := hb_1.trans (hbl2.mono (by have := HsW.out; omega))
                have hB_2 := hB_1.under hbl2 (by omega)
                clear hat2
                refine Dr.plan_e rfl (by rfl) (fun K hK => ?_)
                go_wp2_with fail
                refine hK _ _ (.of (ext_alloc _ _)) ?_; clear hK K
                have el3 := Blk.new w2 3 [.int .i64 (j : Int)]
                change Blk (w2.alloc (.cells #[.int .i64 (j : Int)] 3)) _ _ _ at el3
                have hc3 := ext_alloc w2 (.cells #[.int .i64 (j : Int)] 3)
                have zs3 : (w2.alloc (.cells #[.int .i64 (j : Int)] 3)).heap.size = w2.heap.size + 1 := by simp
                have ow3 := hown2.ext hc3
                have hb_3 := ext_trans hb_2 hc3
                have hB_3 := hB_2.ext hc3
                refine Dr.plan_e rfl (by rfl) (fun K hK => ?_)
                refine wp_app_rows encI 24 3 1 8 et24 (by decide) (by decide) encI_len encI_one _ _ rfl W.heap.size v2 at_ rfl ow3 (some ⟨w2.heap.size, 0, none⟩) 1 1 [(j : Int)] rfl rfl (fun i x hx => by
                  rcases i with _ | i
                  · simp at hx; subst hx; exact ⟨w2.heap.size, 0, rfl, fun jj u hu => by
                      rcases jj with _ | jj
                      · simp [encI] at hu; subst hu; exact el3.cell rfl
                      · simp [encI] at hu⟩
                  · simp at hx) (by omega) (by omega) ?_
                intro v3 w3 hown3 hbl3 hgr3 _
                refine hK _ _ ⟨hgr3.os, hgr3.tape, hgr3.output, hgr3.size, fun k hk hm => hgr3.block k hk (fun e => hm (by rcases hM2 k e.symm with h | h | h <;> simp [h]))⟩ ?_; clear hK K
                go_frame
                have zs4 := hgr3.size
                have hb_4 := hb_3.trans (hbl3.mono (by have := HsW.out; omega))
                have hB_4 := hB_3.under hbl3 (by omega)
                obtain ⟨A3', c3', hv3, -, -, hC3⟩ := hown3.cells encI_len
                subst hv3
                refine Dr.plan_e rfl (by rfl) (fun K hK => ?_)
                have hlen : (at_ ++ [(j : Int)]).length = q + 1 := by simp [hq]
                have ihc := Lib.hid (IH.out (at_ ++ [(j : Int)]) A3' c3' w3 (by rw [hlen]; omega) (hd.ext (ext_trans hW0 hb_4)) hC3)
                rw [hlen] at ihc ⊢
                clear hlen
                go_wp2_with fail
                refine ihc.out.mono ?_
                rintro e w5 ⟨A5, c5, rfl, hC5, hb5⟩
                refine hK _ _ (.of hb5) ?_; clear hK K
                have hb_5 := ext_trans hb_4 hb5
                have hB_5 := hB_4.ext hb5
                refine Dr.plan_q (l := [_, _, _, _, _]) rfl (fun K hK => ?_)
                iterate 5 (go_big_quiet_step (fail))
                refine wpQuiet_nil (hK _ ?_); clear hK K
                refine Dr.plan_end rfl ?_
                go_wp2
                go_meet
                case rel => exact ⟨A5, c5, rfl, rfl, hC5, ext_trans hW0 hb_5, hB_5⟩
              · refine Dr.plan_e rfl (by rfl) (fun K hK => ?_)
                go_wp2_with fail
                refine hK _ _ (.of (ext_alloc _ _)) ?_; clear hK K
                have el2 := Blk.new (W.alloc (.cells #[] 3)) 3 [.int .i64 (j : Int)]
                change Blk ((W.alloc (.cells #[] 3)).alloc (.cells #[.int .i64 (j : Int)] 3)) _ _ _ at el2
                have hc2 := ext_alloc (W.alloc (.cells #[] 3)) (.cells #[.int .i64 (j : Int)] 3)
                rw [zs1] at el2
                have zs2 : ((W.alloc (.cells #[] 3)).alloc (.cells #[.int .i64 (j : Int)] 3)).heap.size = (W.alloc (.cells #[] 3)).heap.size + 1 := by simp
                have ow2 := ow1.ext hc2
                have hb_2 := ext_trans hb_1 hc2
                have hB_2 := hB_1.ext hc2
                refine Dr.plan_e rfl (by rfl) (fun K hK => ?_)
                refine wp_app_rows encI 24 3 1 8 et24 (by decide) (by decide) encI_len encI_one _ _ rfl W.heap.size (.slice (some ⟨W.heap.size, 0, none⟩) 0 0) [] rfl ow2 V q cm at_ hq rfl (hv.ext (ext_trans hW0 hb_2)) (by simp; omega) (by simp <;> omega) ?_
                intro v2 w2 hown2 hbl2 hgr2 hat2
                rw [List.nil_append] at hown2
                have hM2 : ∀ b, v2.ownBlock = some b → b = W.heap.size ∨ b = W.heap.size + 1 ∨ b = W.heap.size + 2 := fun b hb => by
                  rcases hat2 with ⟨rfl, _⟩ | ⟨g, cc, rfl, hg⟩
                  · simp [Value.ownBlock] at hb; omega
                  · simp [Value.ownBlock] at hb; subst hb
                    rcases hg with hg | hg
                    · simp [Value.ownBlock] at hg; omega
                    · simp at hg; omega
                refine hK _ _ ⟨hgr2.os, hgr2.tape, hgr2.output, hgr2.size, fun k hk hm => hgr2.block k hk (fun e => hm (by simp [Value.ownBlock] at e; simp [e]))⟩ ?_; clear hK K
                go_frame
                have zs3 := hgr2.size
                have el3 : Blk w2 (W.heap.size + 1) 3 [.int .i64 (j : Int)] := (hgr2.block _ el2.lt (by simp [Value.ownBlock])).trans el2
                have hb_3 := hb_2.trans (hbl2.mono (by have := HsW.out; omega))
                have hB_3 := hB_2.under hbl2 (by omega)
                clear hat2
                refine Dr.plan_e rfl (by rfl) (fun K hK => ?_)
                refine wp_app_rows encI 24 3 1 8 et24 (by decide) (by decide) encI_len encI_one _ _ rfl W.heap.size v2 at_ rfl hown2 (some ⟨(W.heap.size + 1), 0, none⟩) 1 1 [(j : Int)] rfl rfl (fun i x hx => by
                  rcases i with _ | i
                  · simp at hx; subst hx; exact ⟨(W.heap.size + 1), 0, rfl, fun jj u hu => by
                      rcases jj with _ | jj
                      · simp [encI] at hu; subst hu; exact el3.cell rfl
                      · simp [encI] at hu⟩
                  · simp at hx) (by omega) (by omega) ?_
                intro v3 w3 hown3 hbl3 hgr3 _
                refine hK _ _ ⟨hgr3.os, hgr3.tape, hgr3.output, hgr3.size, fun k hk hm => hgr3.block k hk (fun e => hm (by rcases hM2 k e.symm with h | h | h <;> simp [h]))⟩ ?_; clear hK K
                go_frame
                have zs4 := hgr3.size
                have hb_4 := hb_3.trans (hbl3.mono (by have := HsW.out; omega))
                have hB_4 := hB_3.under hbl3 (by omega)
                obtain ⟨A3', c3', hv3, -, -, hC3⟩ := hown3.cells encI_len
                subst hv3
                refine Dr.plan_e rfl (by rfl) (fun K hK => ?_)
                have hlen : (at_ ++ [(j : Int)]).length = q + 1 := by simp [hq]
                have ihc := Lib.hid (IH.out (at_ ++ [(j : Int)]) A3' c3' w3 (by rw [hlen]; omega) (hd.ext (ext_trans hW0 hb_4)) hC3)
                rw [hlen] at ihc ⊢
                clear hlen
                go_wp2_with fail
                refine ihc.out.mono ?_
                rintro e w5 ⟨A5, c5, rfl, hC5, hb5⟩
                refine hK _ _ (.of hb5) ?_; clear hK K
                have hb_5 := ext_trans hb_4 hb5
                have hB_5 := hB_4.ext hb5
                refine Dr.plan_q (l := [_, _, _, _, _]) rfl (fun K hK => ?_)
                iterate 5 (go_big_quiet_step (fail))
                refine wpQuiet_nil (hK _ ?_); clear hK K
                refine Dr.plan_end rfl ?_
                go_wp2
                go_meet
                case rel => exact ⟨A5, c5, rfl, rfl, hC5, ext_trans hW0 hb_5, hB_5⟩
            · refine Dr.plan_e rfl (by rfl) (fun K hK => ?_)
              go_wp2_with fail
              refine hK _ _ (.of (ext_alloc _ _)) ?_; clear hK K
              have el1 := Blk.new W 3 [.int .i64 (j : Int)]
              change Blk (W.alloc (.cells #[.int .i64 (j : Int)] 3)) _ _ _ at el1
              have hc1 := ext_alloc W (.cells #[.int .i64 (j : Int)] 3)
              have zsG : (W.alloc (.cells #[.int .i64 (j : Int)] 3)).heap.size = W.heap.size + 1 := by simp
              have zs1 : (W.alloc (.cells #[.int .i64 (j : Int)] 3)).heap.size = W.heap.size + 1 := by simp
              have hb_1 := ext_trans hb1 hc1
              have hB_1 := hB1.ext hc1
              refine Dr.plan_e rfl (by rfl) (fun K hK => ?_)
              go_wp2_with fail
              refine hK _ _ (.of (ext_alloc _ _)) ?_; clear hK K
              have ow2 := own_new (α := Int) (W.alloc (.cells #[.int .i64 (j : Int)] 3)) 3 1 encI
              have zs2 : ((W.alloc (.cells #[.int .i64 (j : Int)] 3)).alloc (.cells #[] 3)).heap.size = (W.alloc (.cells #[.int .i64 (j : Int)] 3)).heap.size + 1 := by simp
              rw [zsG] at ow2
              have hc2 := ext_alloc (W.alloc (.cells #[.int .i64 (j : Int)] 3)) (.cells #[] 3)
              have el2 := el1.ext hc2
              have hb_2 := ext_trans hb_1 hc2
              have hB_2 := hB_1.ext hc2
              refine Dr.plan_e rfl (by rfl) (fun K hK => ?_)
              refine wp_app_rows encI 24 3 1 8 et24 (by decide) (by decide) encI_len encI_one _ _ rfl (W.heap.size + 1) (.slice (some ⟨(W.heap.size + 1), 0, none⟩) 0 0) [] rfl ow2 V q cm at_ hq rfl (hv.ext (ext_trans hW0 hb_2)) (by simp; omega) (by simp <;> omega) ?_
              intro v2 w2 hown2 hbl2 hgr2 hat2
              rw [List.nil_append] at hown2
              have hM2 : ∀ b, v2.ownBlock = some b → b = W.heap.size ∨ b = W.heap.size + 1 ∨ b = W.heap.size + 2 := fun b hb => by
                rcases hat2 with ⟨rfl, _⟩ | ⟨g, cc, rfl, hg⟩
                · simp [Value.ownBlock] at hb; omega
                · simp [Value.ownBlock] at hb; subst hb
                  rcases hg with hg | hg
                  · simp [Value.ownBlock] at hg; omega
                  · simp at hg; omega
              refine hK _ _ ⟨hgr2.os, hgr2.tape, hgr2.output, hgr2.size, fun k hk hm => hgr2.block k hk (fun e => hm (by simp [Value.ownBlock] at e; simp [e]))⟩ ?_; clear hK K
              go_frame
              have zs3 := hgr2.size
              have el3 : Blk w2 W.heap.size 3 [.int .i64 (j : Int)] := (hgr2.block _ el2.lt (by simp [Value.ownBlock])).trans el2
              have hb_3 := hb_2.trans (hbl2.mono (by have := HsW.out; omega))
              have hB_3 := hB_2.under hbl2 (by omega)
              clear hat2
              refine Dr.plan_e rfl (by rfl) (fun K hK => ?_)
              refine wp_app_rows encI 24 3 1 8 et24 (by decide) (by decide) encI_len encI_one _ _ rfl (W.heap.size + 1) v2 at_ rfl hown2 (some ⟨W.heap.size, 0, none⟩) 1 1 [(j : Int)] rfl rfl (fun i x hx => by
                rcases i with _ | i
                · simp at hx; subst hx; exact ⟨W.heap.size, 0, rfl, fun jj u hu => by
                    rcases jj with _ | jj
                    · simp [encI] at hu; subst hu; exact el3.cell rfl
                    · simp [encI] at hu⟩
                · simp at hx) (by omega) (by omega) ?_
              intro v3 w3 hown3 hbl3 hgr3 _
              refine hK _ _ ⟨hgr3.os, hgr3.tape, hgr3.output, hgr3.size, fun k hk hm => hgr3.block k hk (fun e => hm (by rcases hM2 k e.symm with h | h | h <;> simp [h]))⟩ ?_; clear hK K
              go_frame
              have zs4 := hgr3.size
              have hb_4 := hb_3.trans (hbl3.mono (by have := HsW.out; omega))
              have hB_4 := hB_3.under hbl3 (by omega)
              obtain ⟨A3', c3', hv3, -, -, hC3⟩ := hown3.cells encI_len
              subst hv3
              refine Dr.plan_e rfl (by rfl) (fun K hK => ?_)
              have hlen : (at_ ++ [(j : Int)]).length = q + 1 := by simp [hq]
              have ihc := Lib.hid (IH.out (at_ ++ [(j : Int)]) A3' c3' w3 (by rw [hlen]; omega) (hd.ext (ext_trans hW0 hb_4)) hC3)
              rw [hlen] at ihc ⊢
              clear hlen
              go_wp2_with fail
              refine ihc.out.mono ?_
              rintro e w5 ⟨A5, c5, rfl, hC5, hb5⟩
              refine hK _ _ (.of hb5) ?_; clear hK K
              have hb_5 := ext_trans hb_4 hb5
              have hB_5 := hB_4.ext hb5
              refine Dr.plan_q (l := [_, _, _, _, _]) rfl (fun K hK => ?_)
              iterate 5 (go_big_quiet_step (fail))
              refine wpQuiet_nil (hK _ ?_); clear hK K
              refine Dr.plan_end rfl ?_
              go_wp2
              go_meet
              case rel => exact ⟨A5, c5, rfl, rfl, hC5, ext_trans hW0 hb_5, hB_5⟩
          case rest =>
            obtain ⟨A, c, rfl, rfl, hC, hb, hB⟩ := hcut
            clear hW0 hB0 x0
            cases hr : grownG y m (at_ ++ [(j : Int)]) with
            | none =>
              have Hn := Lib.hid (show ∀ q' : Nat, q' < j + 1 → grownG y m (at_ ++ [(q' : Int)]) = none by
                intro q' h
                by_cases e : q' = j
                · subst e; exact hr
                · exact Hj.out q' (by omega))
              simp only [Option.isSome_none]
              clear hr
              go_wp2
              go_roundw
              case rel => exact ⟨j + 1, by go_num, by omega, Hn, hb, hB⟩
              case measure => simp [intOf]; omega
            | some l =>
              have Hg := Lib.hid (show G = some l by rw [← HG.out]; exact grown_some HA.out (by rw [H1.out]; exact hlt) Hj.out hr)
              rw [hr] at hC
              simp only [Option.isSome_some, Option.getD_some] at hC ⊢
              clear hr
              go_wp2
              go_ret2
              rw [Hg.out]
              exact ⟨A, c, rfl, hC, hb⟩
        · obtain rfl : j = n1 := by omega
          have Hg := Lib.hid (show G = none by rw [← HG.out]; exact grown_none HA.out (fun q' h => Hj.out q' (by rw [H1.out] at h; exact h)))
          go_wp2
          go_ret2
          rw [Hg.out]
          exact ⟨none, 0, rfl, Cells.nil, hW0⟩
end Go.Proofs.Ytopfhinnamhoiaa

/- Walk: the reference's better and Buy. -/
import Derived.Deep.DeepCutAuto
import Derived.Deep.CutBlock
import Derived.Test.YtopfhinnamhoiaaSpecS
import Derived.Test.YtopfhinnamhoiaaPush
namespace Go.Proofs.Ytopfhinnamhoiaa
open Go.RowKit Go.Bs Go.Yd Go.Pl Go.Sort

def BtPost (R : Option (List Nat)) (w : World) (e : Ending) (w' : World) : Prop :=
  ∃ A c, e = .returned (.tuple #[.slice A (R.getD []).length c, .bool R.isSome]) ∧ Cells w' A 1 encI (natsI (R.getD [])) ∧ Below w.heap.size w w'
def AllOk (r : Rd) (b : Option (List Nat)) : Prop := ∀ x, b = some x → PlanOk r (natsI x)
theorem pick_ok {r : Rd} {b : Option (List Nat)} (h : AllOk r b) (l : List Nat) : AllOk r (pick r b l) := by
  unfold pick
  split
  · rename_i hp
    intro x hx; cases hx; exact hp.1
  · exact h
theorem loopB_ok {r : Rd} : ∀ (k : Nat) (now : List Nat) (f : Nat) (b : Option (List Nat)), AllOk r b → AllOk r (loopB r k now f b)
  | 0, _, _, _, h => h
  | k + 1, now, f, b, h => by
    unfold loopB
    refine loopB_ok k now (f + 1) _ ?_
    split
    · exact loopB_ok k _ (f + 1) _ (pick_ok h _)
    · exact h

set_option maxRecDepth 100000 in
set_option maxHeartbeats 4000000 in
theorem better_any (r : Rd) (hok : r.ok) (A : Option Addr) (n cap : Nat) (hn : r.days.length = n) : ∀ (k f : Nat) (now : List Nat) (V : Option Addr) (cm : Nat) (b : Option (List Nat)) (B : Option Addr) (cb : Nat) (w : World), f + k = n → now.length ≤ f → AllOk r b → RdAt w A r → Cells w V 1 encI (natsI now) → Cells w B 1 encI (natsI (b.getD [])) →
    Calls Try.prog 92 #[.agg #[.slice A n cap, .int .i64 r.keep], .slice V now.length cm, .int .i64 f, .slice B (b.getD []).length cb, .bool b.isSome] w (BtPost (loopB r k now f (pick r b now)) w) := by
  intro k
  induction k using Nat.strongRecOn with
  | ind k ih =>
  intro f now V cm b B cb w hk hnf hb hd hv hB
  have hlen := hok.1
  rw [hn] at hlen
  have hb0 := ext_alloc w (.cells #[.slice A n cap, .int .i64 r.keep] 87)
  have hBx := Blk.new w 87 [.slice A n cap, .int .i64 r.keep]
  obtain ⟨m, hm⟩ : ∃ m, now.length = m := ⟨_, rfl⟩
  have hm2 : (natsI now).length = m := by rw [natsI_len, hm]
  rw [hm] at hnf ⊢
  have hm40 : m ≤ 40 := by omega
  obtain ⟨p, hp⟩ : ∃ p : Bool, (p = true ↔ PlanOk r (natsI now)) := by classical exact ⟨decide (PlanOk r (natsI now)), by simp⟩
  obtain ⟨q, hq⟩ : ∃ q : Bool, (q = true ↔ PlanOk r (natsI now) ∧ ∀ x, b = some x → spL r now < spL r x) := by classical exact ⟨decide (PlanOk r (natsI now) ∧ ∀ x, b = some x → spL r now < spL r x), by simp⟩
  generalize hR : loopB r k now f (pick r b now) = R
  generalize hmb : (b.getD []).length = mb
  generalize hfb : b.isSome = fb
  have Hmb := Lib.hid hmb
  have Hfb := Lib.hid hfb
  have HR := Lib.hid hR
  have Hp := Lib.hid hp
  have Hq := Lib.hid hq
  have Hn := Lib.hid hn
  have Hm := Lib.hid hm
  have Hm2 := Lib.hid hm2
  have Hk := Lib.hid hk
  have Hb := Lib.hid hb
  have IH := Lib.hid ih
  clear hR hp hq ih hn hm hm2 hb hmb hfb
  have hk2 : f ≤ n := by omega
  clear hk
  go_enter Try.func92, Try.ntmps92
  go_upto_region 1 with fail
  change Blk (w.alloc (.cells #[.slice A n cap, .int .i64 r.keep] 87)) w.heap.size 87 [.slice A n cap, .int .i64 r.keep] at hBx
  generalize w.alloc (.cells #[.slice A n cap, .int .i64 r.keep] 87) = W0 at *
  go_cut [28] (fun z W => z = .bool q ∧ Below w.heap.size w W ∧ Blk W w.heap.size 87 [.slice A n cap, .int .i64 r.keep])
  case first =>
    refine Dr.wp_region_plan 16 [] (.q [0, 1] (.e1 2 (.q [3, 4, 5, 6, 7, 8, 10, 11] (.e1 9 (.e1 12 (.q [13, 14, 15] .done)))))) (by kernel_rfl) (by kernel_rfl) ?_
    have hb1 := hb0.drew
    have hB1 := hBx.ext (ext_drew W0)
    clear hb0 hBx
    generalize World.drew _ = W at *
    have q0 := Dr.cell0 (hB1.cell (i := 0) rfl)
    have q1 := Dr.cell0 (hB1.cell (i := 1) rfl)
    refine Dr.plan_q (l := [_, _]) rfl (fun K hK => ?_)
    iterate 2 (go_big_quiet_step (fail))
    refine wpQuiet_nil (hK _ ?_); clear hK K
    refine Dr.plan_e rfl (by rfl) (fun K hK => ?_)
    go_wp2_with fail
    refine (RPlan_any r hok A n cap (natsI now) V m cm W p Hp.out Hn.out Hm2.out hm40 (hd.ext hb1) (hv.ext hb1)).mono ?_; rintro e w1 ⟨rfl, hb2⟩
    refine hK _ _ (.of hb2) ?_; clear hK K
    have hb3 := ext_trans hb1 hb2
    have hB3 := hB1.ext hb2
    clear hb1 hB1 q0 q1 hb2
    have q0 := Dr.cell0 (hB3.cell (i := 0) rfl)
    have q1 := Dr.cell0 (hB3.cell (i := 1) rfl)
    cases p
    · have Hqf := Lib.hid (show q = false by
        cases q
        · rfl
        · have := (Hq.out.1 rfl).1
          have := Hp.out.2 this
          cases this)
      refine Dr.plan_q (l := [_, _, _, _, _, _, _, _]) rfl (fun K hK => ?_)
      iterate 8 (go_big_quiet_step (fail))
      refine wpQuiet_nil (hK _ ?_); clear hK K
      refine Dr.plan_e_skip rfl (by rfl) ?_; go_frame
      refine Dr.plan_e_skip rfl (by rfl) ?_; go_frame
      refine Dr.plan_q (l := [_, _, _]) rfl (fun K hK => ?_)
      iterate 3 (go_big_quiet_step (fail))
      refine wpQuiet_nil (hK _ ?_); clear hK K
      refine Dr.plan_end rfl ?_
      go_wp2
      go_meet
      case rel => exact ⟨bool_congr Hqf.out.symm, hb3, hB3⟩
    · have hpo := Hp.out.1 rfl
      cases b with
      | none =>
        have Hqf := Lib.hid (Hq.out.2 ⟨hpo, fun x hx => by cases hx⟩)
        clear hpo
        obtain rfl : fb = false := Hfb.out.symm
        refine Dr.plan_q (l := [_, _, _, _, _, _, _, _]) rfl (fun K hK => ?_)
        iterate 8 (go_big_quiet_step (fail))
        refine wpQuiet_nil (hK _ ?_); clear hK K
        refine Dr.plan_e_skip rfl (by rfl) ?_; go_frame
        refine Dr.plan_e_skip rfl (by rfl) ?_; go_frame
        refine Dr.plan_q (l := [_, _, _]) rfl (fun K hK => ?_)
        iterate 3 (go_big_quiet_step (fail))
        refine wpQuiet_nil (hK _ ?_); clear hK K
        refine Dr.plan_end rfl ?_
        go_wp2
        go_meet
        case rel => exact ⟨bool_congr Hqf.out.symm, hb3, hB3⟩
      | some x =>
        have hxo := Hb.out x rfl
        have hxl := hxo.len
        rw [natsI_len, Hn.out] at hxl
        have hqd : q = decide (spL r now < spL r x) := by
          have h1 := Hq.out
          by_cases hlt : spL r now < spL r x
          · rw [decide_eq_true hlt]; exact h1.2 ⟨hpo, fun y hy => by cases hy; exact hlt⟩
          · rw [decide_eq_false hlt]
            cases q
            · rfl
            · exact absurd ((h1.1 rfl).2 x rfl) hlt
        have Hqd := Lib.hid hqd
        have Hpo := Lib.hid hpo
        have Hxo := Lib.hid hxo
        have hv3 := hv.ext hb3
        have hB4 := hB.ext hb3
        have hd3 := hd.ext hb3
        clear hqd hpo hxo
        obtain rfl : fb = true := Hfb.out.symm
        have hmx : x.length = mb := Hmb.out
        simp only [Option.getD_some] at hB4
        have Hs1 := Lib.hid (RSpend_any r hok A n cap (natsI now) V m cm w1 Hpo.out Hn.out Hm2.out hm40 hd3 hv3)
        have Hs2 := fun W hbw => RSpend_any r hok A n cap (natsI x) B mb cb W Hxo.out Hn.out (by rw [natsI_len, hmx]) (by omega) (hd3.ext hbw) (Cells.ext hB4 hbw)
        have e1 : spN r (natsI now) m = spL r now := by unfold spL; rw [Hm.out]
        have e2 : spN r (natsI x) mb = spL r x := by unfold spL; rw [hmx]
        rw [e1] at Hs1
        rw [e2] at Hs2
        have HS2 := Lib.hid Hs2
        clear Hs2 e1 e2 hxl hmx
        generalize spL r now = sa at *
        generalize spL r x = sb at *
        refine Dr.plan_q (l := [_, _, _, _, _, _, _, _]) rfl (fun K hK => ?_)
        iterate 8 (go_big_quiet_step (fail))
        refine wpQuiet_nil (hK _ ?_); clear hK K
        refine Dr.plan_e rfl (by rfl) (fun K hK => ?_)
        go_wp2_with fail
        refine Hs1.out.mono ?_; rintro e w2 ⟨rfl, hb4⟩
        refine hK _ _ (.of hb4) ?_; clear hK K
        refine Dr.plan_e rfl (by rfl) (fun K hK => ?_)
        go_wp2_with fail
        refine (HS2.out w2 hb4).mono ?_; rintro e w3 ⟨rfl, hb5⟩
        refine hK _ _ (.of hb5) ?_; clear hK K
        have hb6 := ext_trans (ext_trans hb3 hb4) hb5
        have hB6 := (hB3.ext hb4).ext hb5
        clear q0 q1 hb3 hb4 hb5 hB3 hv3 hB4 hd3 Hs1 HS2
        refine Dr.plan_q (l := [_, _, _]) rfl (fun K hK => ?_)
        iterate 3 (go_big_quiet_step (fail))
        refine wpQuiet_nil (hK _ ?_); clear hK K
        refine Dr.plan_end rfl ?_
        go_wp2
        go_meet
        case rel => exact ⟨bool_congr Hqd.out.symm, hb6, hB6⟩
  case rest =>
    obtain ⟨rfl, hb1, hB1⟩ := hcut
    clear hb0 hBx
    go_upto_if 28 with fail
    go_cut [3, 4] (fun u v W => ∃ A' c', u = .slice A' ((pick r b now).getD []).length c' ∧ v = .bool (pick r b now).isSome ∧ Cells W A' 1 encI (natsI ((pick r b now).getD [])) ∧ Below w.heap.size w W ∧ Blk W w.heap.size 87 [.slice A n cap, .int .i64 r.keep])
    case first =>
      cases q
      · have Hpk := Lib.hid (show pick r b now = b by unfold pick; rw [if_neg (fun h => by have := Hq.out.2 h; cases this)])
        go_wp2
        go_meet
        case rel => rw [Hpk.out, ← Hmb.out, ← Hfb.out]; exact ⟨B, cb, rfl, rfl, hB.ext hb1, hb1, hB1⟩
      · have Hpk := Lib.hid (show pick r b now = some now by unfold pick; rw [if_pos (Hq.out.1 rfl)])
        have hd1 := hv.ext (ext_trans hb1 (ext_alloc wc (.cells #[] 3)))
        have ho := own_new (α := Int) wc 3 1 encI
        have hb2 := ext_trans hb1 (ext_alloc wc (.cells #[] 3))
        have hB2 := hB1.ext (ext_alloc wc (.cells #[] 3))
        have hlw := hb1.size
        have hlb := hB1.lt
        go_wp2_with (at_builtin; refine app_ints 24 3 et24 rfl _ _ rfl wc.heap.size _ [] rfl ho V m cm (natsI now) Hm2.out rfl hd1 (by simp; omega) (by simp) ?_; intro v' w' hown hb3 _ _)
        obtain ⟨A', c', rfl, -, -, hC⟩ := hown.cells encI_len
        go_meet
        case rel =>
          rw [Hpk.out]
          simp only [List.nil_append, natsI_len] at hC ⊢
          exact ⟨A', c', rfl, rfl, hC, hb2.trans (hb3.mono hlw), hB2.under hb3 hlb⟩
    case rest =>
      obtain ⟨A', c', rfl, rfl, hC, hb2, hB2⟩ := hcut
      clear hb1 hB1 hB
      have HP := Lib.hid (pick_ok Hb.out now)
      generalize pick r b now = s0 at *
      go_wp2
      go_loopw [3, 4, 12] (fun u v x wr => ∃ (t : Nat) (s : Option (List Nat)) (A' : Option Addr) (c' : Nat), x = .int .i64 t ∧ f ≤ t ∧ t ≤ n ∧ u = .slice A' (s.getD []).length c' ∧ v = .bool s.isSome ∧ Hid (loopB r (n - t) now t s = R) ∧ Hid (AllOk r s) ∧ Cells wr A' 1 encI (natsI (s.getD [])) ∧ Below w.heap.size w wr ∧ Blk wr w.heap.size 87 [.slice A n cap, .int .i64 r.keep]) (fun _ _ x _ => n - (intOf x).toNat)
      case atStart => exact ⟨f, s0, A', c', rfl, Nat.le_refl _, hk2, rfl, rfl, Lib.hid (by rw [← HR.out, ← Hk.out]; congr 1; omega), HP, hC, hb2, hB2⟩
      case round =>
        clear hC hb2 hB2 HP HR
        obtain ⟨t, s, A', c', rfl, hft, htn, rfl, rfl, Hl, Hs, hC, hb, hB⟩ := hrel
        have x0 : wr.cell? ⟨w.heap.size, 0, none⟩ = _ := hB.cell rfl
        by_cases hlt : t < n
        · have hlt' : (t : Int) < (n : Int) := by omega
          have ht0 : (0 : Int) ≤ (t : Int) := by omega
          obtain ⟨bd, od, rfl, -, -, -, -, c3⟩ := (hd.ext hb).day (k := t) (by rw [Hn.out]; exact hlt)
          have hl2 := Hl.out
          rw [show n - t = (n - t - 1) + 1 by omega] at hl2
          unfold loopB at hl2
          have Hl2 := Lib.hid hl2
          clear Hl hl2
          generalize hs2 : (if (r.day t).opn = true then loopB r (n - t - 1) (now ++ [t]) (t + 1) (pick r s (now ++ [t])) else s) = s2 at Hl2
          have HS2 := Lib.hid hs2
          have HS : Hid (AllOk r s2) := by
            rw [← hs2]
            split
            · exact Lib.hid (loopB_ok (n - t - 1) (now ++ [t]) (t + 1) _ (pick_ok Hs.out (now ++ [t])))
            · exact Hs
          clear hs2
          go_upto_block 1 with fail
          go_cut [3, 4] (fun u v W => ∃ A' c', u = .slice A' (s2.getD []).length c' ∧ v = .bool s2.isSome ∧ Cells W A' 1 encI (natsI (s2.getD [])) ∧ Below w.heap.size w W ∧ Blk W w.heap.size 87 [.slice (some ⟨bd, od, none⟩) n cap, .int .i64 r.keep])
          case first =>
            by_cases ho : (r.day t).opn = true
            · have hl3 := HS2.out
              rw [if_pos ho] at hl3
              have Hl3 := Lib.hid hl3
              rw [ho] at c3
              have ihc := fun W5 A5 c5 (h1 : RdAt W5 (some ⟨bd, od, none⟩) r) h2 h3 => IH.out (n - t - 1) (by have := Hk.out; omega) (t + 1) (now ++ [t]) A5 c5 s A' c' W5 (by omega) (by simp [Hm.out]; omega) Hs.out h1 h2 h3
              rw [hl3] at ihc
              have Ihc := Lib.hid ihc
              clear ihc hl3 Hl3 ho HS2
              go_upto_region 7 with fail
              refine Dr.wp_region_plan 17 [wr.heap.size, wr.heap.size + 1, wr.heap.size + 2, wr.heap.size + 3] (.q [0, 2, 4, 7, 8, 9, 10] (.e2 1 (.e2 3 (.e1 5 (.e1 6 (.e1 11 (.q [12, 13, 14, 15, 16] .done)))) 5 (.e1 3 (.e1 6 (.e1 11 (.q [12, 13, 14, 15, 16] .done))))) 5 (.e1 1 (.e1 3 (.e1 6 (.e1 11 (.q [12, 13, 14, 15, 16] .done))))))) (by kernel_rfl) (by kernel_rfl) ?_
              have hb1 := hb.drew
              have hB1 := hB.ext (ext_drew wr)
              have hC1 := hC.ext (ext_drew wr)
              have hsW : wr.drew.heap.size = wr.heap.size := rfl
              have hlw := hB1.lt
              clear hb hB hC x0 c3
              generalize World.drew _ = W at *
              rw [← hsW]
              have q0 := Dr.cls_cell (M := [W.heap.size, W.heap.size + 1, W.heap.size + 2, W.heap.size + 3]) (hB1.cell (i := 0) rfl) (by simp; omega)
              have q1 := Dr.cls_cell (M := [W.heap.size, W.heap.size + 1, W.heap.size + 2, W.heap.size + 3]) (hB1.cell (i := 1) rfl) (by simp; omega)
              clear hsW
              refine Dr.plan_q (l := [_, _, _, _, _, _, _]) rfl (fun K hK => ?_)
              iterate 7 (go_big_quiet_step (fail))
              refine wpQuiet_nil (hK _ ?_); clear hK K
              clear q0 q1
              refine plan_push et24 V m cm (natsI now) (t : Int) rfl rfl rfl rfl rfl rfl rfl rfl rfl rfl rfl rfl rfl rfl rfl rfl (by decide) (by simp) rfl rfl Hm2.out (by omega) (hv.ext hb1) (fun b h1 h2 => by simp; omega) ?_
              intro x1 x3 x5 A5 c5 w5 hP
              go_frame
              rw [show natsI now ++ [(t : Int)] = natsI (now ++ [t]) by simp [natsI]] at hP
              have hb5 := ext_trans hb1 hP.bl
              have hB5 := hB1.ext hP.bl
              have hI := Ihc.out w5 A5 c5 (hd.ext hb5) hP.ce (hC1.ext hP.bl)
              rw [show (now ++ [t]).length = m + 1 by simp [Hm.out]] at hI
              have HI := Lib.hid hI
              clear hI
              refine Dr.plan_e rfl (by rfl) (fun K hK => ?_)
              go_wp2_with fail
              refine HI.out.mono ?_; rintro e w6 ⟨A6, c6, rfl, hC6, hb6⟩
              refine hK _ _ (.of hb6) ?_; clear hK K
              refine Dr.plan_q (l := [_, _, _, _, _]) rfl (fun K hK => ?_)
              iterate 5 (go_big_quiet_step (fail))
              refine wpQuiet_nil (hK _ ?_); clear hK K
              refine Dr.plan_end rfl ?_
              go_wp2
              go_meet
              case rel => exact ⟨A6, c6, rfl, rfl, hC6, ext_trans hb5 hb6, hB5.ext hb6⟩
            · have hl3 := HS2.out
              rw [if_neg ho] at hl3
              have Hl3 := Lib.hid hl3
              have ho' : (r.day t).opn = false := by simpa using ho
              rw [ho'] at c3
              clear hl3 ho ho'
              go_wp2
              go_meet
              case rel => rw [← Hl3.out]; exact ⟨A', c', rfl, rfl, hC, hb, hB⟩
          case rest =>
            obtain ⟨A6, c6, rfl, rfl, hC6, hb6, hB6⟩ := hcut
            clear hC hb hB x0 c3
            go_wp2
            go_roundw
            case rel => exact ⟨t + 1, s2, A6, c6, by go_num, by omega, by omega, rfl, rfl, Lib.hid (by rw [← Hl2.out]; rfl), HS, hC6, hb6, hB6⟩
            case measure => simp [intOf]; omega
        · obtain rfl : t = n := by omega
          have Hl2 := Lib.hid (show s = R by rw [← Hl.out, Nat.sub_self]; rfl)
          go_wp2
          go_ret2
          rw [← Hl2.out]
          exact ⟨A', c', rfl, hC, hb⟩

set_option maxHeartbeats 1000000 in
theorem RBuy_any (r : Rd) (hok : r.ok) (A : Option Addr) (n cap : Nat) (w : World) (hn : r.days.length = n) (hd : RdAt w A r) :
    Calls Try.prog 58 #[.agg #[.slice A n cap, .int .i64 r.keep]] w (BtPost (refBuy r) w) := by
  have hb0 := ext_alloc w (.cells #[.slice A n cap, .int .i64 r.keep] 87)
  have H := Lib.hid (better_any r hok A n cap hn n 0 [] none 0 none none 0 _ (by omega) (Nat.le_refl _) (fun x hx => by cases hx) (hd.ext hb0) Cells.nil Cells.nil)
  have hR : loopB r n [] 0 (pick r none []) = refBuy r := by unfold refBuy; rw [hn]
  rw [hR] at H
  clear hn hR
  generalize refBuy r = R at *
  go_enter Try.func58, Try.ntmps58
  go_wp2_with fail
  refine H.out.mono ?_; rintro e w1 ⟨A1, c1, rfl, hC, hb1⟩
  go_wp2
  go_ret2
  exact ⟨A1, c1, rfl, hC, ext_trans hb0 hb1⟩
end Go.Proofs.Ytopfhinnamhoiaa

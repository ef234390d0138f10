/- The law YardCheapest, walked. -/
import Derived.Deep.DeepCutAuto
import Derived.Test.YtopfhinnamhoiaaBuyH
namespace Go.Proofs.Ytopfhinnamhoiaa
open Go.RowKit Go.Bs Go.Yd Go.Pl Go.Sort

/-- what Spend says of any list beside the least cost -/
theorem spend_vs {r : Rd} (h : r.okB = true) (L : List Int) : ∃ a b, spendR r L = (a, b) ∧ ((b = 0 ∧ r.tbl 0 ≤ a ∧ r.tbl 0 < 1000000000) ∨ b = 2) := by
  by_cases hp : PlanOk r L
  · have := buy_opt ((Rd.okB_iff r).1 h) hp
    exact ⟨_, _, spendR_ok h hp, .inl ⟨rfl, this⟩⟩
  · exact ⟨_, _, spendR_no h hp, .inr rfl⟩
theorem proof_own {r : Rd} (h : r.okB = true) (hM : r.tbl 0 < 1000000000) : ProofOk r (natsI r.planN) (r.tbl 0) (tab (r.days.length + 1) r.tbl) := by
  have hok := (Rd.okB_iff r).1 h
  obtain ⟨h1, h2, h3⟩ := buy_ok hok hM
  exact ⟨h, h1, h2, tab_right hok, by rw [tg_tab (by omega)]; exact Int.le_refl _⟩
theorem proof_least {r : Rd} (hM : r.tbl 0 < 1000000000) {L T : List Int} {c : Int} (h : ProofOk r L c T) : c = r.tbl 0 := by
  have hok := (Rd.okB_iff r).1 h.rd
  obtain ⟨h1, h2, h3⟩ := buy_ok hok hM
  have h4 := tab_sound hok h.tb h1
  have h5 := (buy_opt hok h.pl).1
  have h6 := h.ct
  have h7 := h.hd
  omega

set_option maxRecDepth 100000 in
set_option maxHeartbeats 4000000 in
theorem cheapest_law (r : Rd) (A : Option Addr) (n cap : Nat) (P : Option Addr) (m cm : Nat) (lo : List Int) (Q : Option Addr) (k ck : Nat) (lp : List Int) (cost : Int) (V : Option Addr) (j cj : Nat) (lt : List Int) (more : Int) (w : World) (hn : r.days.length = n) (hn9 : n ≤ 9223372036854775807) (hm : lo.length = m) (hk : lp.length = k) (hj : lt.length = j) (hm9 : m ≤ 9223372036854775807) (hk9 : k ≤ 9223372036854775807) (hj9 : j ≤ 9223372036854775807) (hmr : 0 ≤ more ∧ more ≤ 255) (hd : RdAt w A r) (ho : Cells w P 1 encI lo) (hp : Cells w Q 1 encI lp) (ht : Cells w V 1 encI lt) :
    Calls Try.prog 13 #[.agg #[.slice A n cap, .int .i64 r.keep], .slice P m cm, .slice Q k ck, .int .i64 cost, .slice V j cj, .int .u8 more] w fun e w' => e = .returned (.bool true) ∧ Below w.heap.size w w' := by
  have hb0 := ext_alloc w (.cells #[.slice A n cap, .int .i64 r.keep] 87)
  have hB := Blk.new w 87 [.slice A n cap, .int .i64 r.keep]
  have HR := Lib.hid (RightRoad_any r A n cap _ hn hn9 (hd.ext hb0))
  cases hok0 : r.okB
  · rw [hok0] at HR
    clear hok0 hd hB hn9 hm9 hk9 hj9
    go_enter Try.func13, Try.ntmps13
    go_wp2_with fail
    refine HR.out.mono ?_; rintro e w1 ⟨rfl, hb1⟩
    go_wp2_with fail
    refine (wakes_any _).mono ?_; rintro e w2 ⟨rfl, hb2⟩
    go_wp2
    go_ret
    exact ⟨rfl, ext_trans (ext_trans hb0 hb1) hb2⟩
  · have hok := (Rd.okB_iff r).1 hok0
    rw [hok0] at HR
    have Hok0 := Lib.hid hok0
    clear hok0
    by_cases h40 : m ≤ 40 ∧ k ≤ 40 ∧ j ≤ 40
    · obtain ⟨h1, h2, h3⟩ := h40
      have h1' : ¬ (40 : Int) < (m : Int) := by omega
      have h2' : ¬ (40 : Int) < (k : Int) := by omega
      have h3' : ¬ (40 : Int) < (j : Int) := by omega
      have hlen := hok.1
      rw [hn] at hlen
      have hkeep := hok.2.1
      have Hn := Lib.hid hn
      go_enter Try.func13, Try.ntmps13
      go_wp2_with fail
      change Blk (w.alloc (.cells #[.slice A n cap, .int .i64 r.keep] 87)) w.heap.size 87 [.slice A n cap, .int .i64 r.keep] at hB
      refine HR.out.mono ?_; rintro e w1 ⟨rfl, hb1⟩
      have hb2 := ext_trans hb0 hb1
      have hB2 := hB.ext hb1
      have x0 : w1.cell? ⟨w.heap.size, 0, none⟩ = _ := hB2.cell rfl
      have x1 : w1.cell? ⟨w.heap.size, 1, none⟩ = _ := hB2.cell rfl
      clear hb0 hb1 hB HR
      go_wp2_with fail
      refine (Road_any r A n cap w1 hn (by omega) (hd.ext hb2)).mono ?_
      rintro e w2 ⟨v, rfl, hv2, hb3⟩
      obtain ⟨A2, c2, rfl, hc2, -, hC2, hA2⟩ := hv2
      rw [hn] at hc2 ⊢
      have hb4 := ext_trans hb2 hb3
      clear hb3 hB2 x0 x1
      go_upto_region 4 with fail
      have hBx := Blk.new w2 92 [.slice A2 n c2, .int .i64 r.keep]
      have hb5 := ext_trans hb4 (ext_alloc w2 (.cells #[.slice A2 n c2, .int .i64 r.keep] 92))
      have hr5 := RdAt.ext (r := r) hC2 (ext_alloc w2 (.cells #[.slice A2 n c2, .int .i64 r.keep] 92))
      change Blk (w2.alloc (.cells #[.slice A2 n c2, .int .i64 r.keep] 92)) w2.heap.size 92 [.slice A2 n c2, .int .i64 r.keep] at hBx
      have hge := hb4.size
      have hA2' : ∀ q, A2.map (·.block) = some q → q ≠ w2.heap.size := fun q hq => by have := hA2 q hq; omega
      clear hb4 hC2 hA2
      generalize w2.heap.size = B at *
      generalize w2.alloc (.cells #[.slice A2 n c2, .int .i64 r.keep] 92) = W at *
      have x0 : W.cell? ⟨B, 0, none⟩ = _ := hBx.cell rfl
      have x1 : W.cell? ⟨B, 1, none⟩ = _ := hBx.cell rfl
      go_wp2_with fail
      refine (Buy_any r A2 n c2 W hn hn9 hc2 hr5).mono ?_
      rintro e w3 ⟨v, x, rfl, hv3, hx3, hb6⟩
      have hb7 := ext_trans hb5 hb6
      have hB7 := hBx.ext hb6
      have hr7 := hr5.ext hb6
      clear hb5 hb6 hBx hr5 x0 x1
      by_cases hM : r.tbl 0 < 1000000000
      · have Hb := Lib.hid (buy_ok hok hM)
        have HPr := Lib.hid (proof_own Hok0.out hM)
        rw [buyR_some Hok0.out hM] at hv3 hx3 ⊢
        obtain ⟨a, b, hs, hab⟩ := spend_vs Hok0.out lo
        have Hs := Lib.hid hs
        have Hab := Lib.hid hab
        have HM := Lib.hid hM
        clear hab hs hM
        simp only at hv3 hx3 ⊢
        obtain ⟨Ab, cb, rfl, hcb, -, hCb, -⟩ := hv3
        obtain ⟨At, ct, rfl, hct, -, hCt, -⟩ := hx3
        generalize natsI r.planN = pl at *
        generalize htb : tab (r.days.length + 1) r.tbl = tb at *
        have htl : tb.length = n + 1 := by rw [← htb, tab_len, Hn.out]
        have Htb := Lib.hid htb
        have Htl := Lib.hid htl
        clear htb htl
        go_upto_region 5 with fail
        refine Dr.wp_region_plan 9 [] (.q [0, 1] (.e1 2 (.e1 3 (.q [4, 5, 6, 7, 8] .done)))) (by kernel_rfl) (by kernel_rfl) ?_
        have hb8 := hb7.drew
        have hB8 := hB7.ext (ext_drew _)
        have hr8 := hr7.ext (ext_drew _)
        have hv8 := hCb.ext (ext_drew _)
        have hx8 := hCt.ext (ext_drew _)
        clear hb7 hB7 hr7 hCb hCt
        generalize World.drew _ = W3 at *
        have q0 := Dr.cell0 (hB8.cell (i := 0) rfl)
        have q1 := Dr.cell0 (hB8.cell (i := 1) rfl)
        refine Dr.plan_q (l := [_, _]) rfl (fun K hK => ?_)
        iterate 2 (go_big_quiet_step (fail))
        refine wpQuiet_nil (hK _ ?_); clear hK K
        refine Dr.plan_e rfl (by rfl) (fun K hK => ?_)
        go_wp2_with fail
        refine (list_any P m cm lo W3 hm (by omega) (ho.ext hb8)).mono ?_; rintro e w4 ⟨v4, rfl, hv4, hb9⟩
        refine hK _ _ (.of hb9) ?_; clear hK K
        obtain ⟨A4, c4, rfl, hc4, -, hC4, -⟩ := hv4
        rw [hm] at hc4 ⊢
        refine Dr.plan_e rfl (by rfl) (fun K hK => ?_)
        go_wp2_with fail
        refine (Spend_any r A2 n c2 lo A4 m c4 w4 hn hn9 hc2 hm h1 (hr8.ext hb9) hC4).mono ?_; rintro e w5 ⟨rfl, hb10⟩
        refine hK _ _ (.of hb10) ?_; clear hK K
        rw [Hs.out]
        have hb11 := ext_trans (ext_trans hb8 hb9) hb10
        have hB11 := (hB8.ext hb9).ext hb10
        have hr11 := (hr8.ext hb9).ext hb10
        have hv11 := (hv8.ext hb9).ext hb10
        have hx11 := (hx8.ext hb9).ext hb10
        clear hv8 hx8 hb8 hb9 hb10 hB8 hr8 hC4 hc4 q0 q1
        refine Dr.plan_q (l := [_, _, _, _, _]) rfl (fun K hK => ?_)
        iterate 5 (go_big_quiet_step (fail))
        refine wpQuiet_nil (hK _ ?_); clear hK K
        refine Dr.plan_end rfl ?_
        go_upto_region 8 with fail
        have hpl : pl.length ≤ 30 := by have := Hb.out.2.2; rw [Hn.out] at this; omega
        have htl : tb.length ≤ 31 := by have := Htl.out; omega
        go_cut [86] (fun z W' => z = .bool false ∧ Below w.heap.size w W' ∧ Blk W' B 92 [.slice A2 n c2, .int .i64 r.keep] ∧ RdAt W' A2 r)
        case first =>
          refine Dr.wp_region_plan 17 [] (.q [0, 1, 3, 4] (.e1 2 (.e1 5 (.e1 6 (.q [7, 8, 9, 10, 11, 12, 13, 14, 15, 16] .done))))) (by kernel_rfl) (by kernel_rfl) ?_
          have hb12 := hb11.drew
          have hB12 := hB11.ext (ext_drew _)
          have hr12 := hr11.ext (ext_drew _)
          have hv12 := hv11.ext (ext_drew _)
          have hx12 := hx11.ext (ext_drew _)
          clear hb11 hB11 hr11 hv11 hx11
          generalize World.drew _ = W6 at *
          have q0 := Dr.cell0 (hB12.cell (i := 0) rfl)
          have q1 := Dr.cell0 (hB12.cell (i := 1) rfl)
          refine Dr.plan_q (l := [_, _, _, _]) rfl (fun K hK => ?_)
          iterate 4 (go_big_quiet_step (fail))
          refine wpQuiet_nil (hK _ ?_); clear hK K
          refine Dr.plan_e rfl (by rfl) (fun K hK => ?_)
          go_wp2_with fail
          refine (list_any Ab pl.length cb pl W6 rfl (by omega) hv12).mono ?_; rintro e w7 ⟨v7, rfl, hv7, hb13⟩
          refine hK _ _ (.of hb13) ?_; clear hK K
          obtain ⟨A7, c7, rfl, hc7, -, hC7, -⟩ := hv7
          refine Dr.plan_e rfl (by rfl) (fun K hK => ?_)
          go_wp2_with fail
          refine (list_any At tb.length ct tb w7 rfl (by omega) (hx12.ext hb13)).mono ?_; rintro e w8 ⟨v8, rfl, hv8, hb14⟩
          refine hK _ _ (.of hb14) ?_; clear hK K
          obtain ⟨A8, c8, rfl, hc8, -, hC8, -⟩ := hv8
          refine Dr.plan_e rfl (by rfl) (fun K hK => ?_)
          go_wp2_with fail
          refine (ProveBuy_any r A2 n c2 pl A7 pl.length c7 (r.tbl 0) tb A8 tb.length c8 w8 true ⟨fun _ => HPr.out, fun _ => rfl⟩ hn hn9 hc2 rfl (by omega) rfl (by omega) ((hr12.ext hb13).ext hb14) (hC7.ext hb14) hC8).mono ?_; rintro e w9 ⟨rfl, hb15⟩
          refine hK _ _ (.of hb15) ?_; clear hK K
          have hb16 := ext_trans (ext_trans (ext_trans hb12 hb13) hb14) hb15
          have hB16 := ((hB12.ext hb13).ext hb14).ext hb15
          have hr16 := ((hr12.ext hb13).ext hb14).ext hb15
          clear q0 q1 hb12 hb13 hb14 hb15 hB12 hr12 hv12 hx12 hC7 hC8
          rcases Hab.out with ⟨rfl, hab, -⟩ | rfl
          · have hlt : ¬ a < r.tbl 0 := by omega
            refine Dr.plan_q (l := [_, _, _, _, _, _, _, _, _, _]) rfl (fun K hK => ?_)
            iterate 10 (go_big_quiet_step (fail))
            refine wpQuiet_nil (hK _ ?_); clear hK K
            refine Dr.plan_end rfl ?_
            go_wp2
            go_meet
            case rel => exact ⟨rfl, hb16, hB16, hr16⟩
          · refine Dr.plan_q (l := [_, _, _, _, _, _, _, _, _, _]) rfl (fun K hK => ?_)
            iterate 10 (go_big_quiet_step (fail))
            refine wpQuiet_nil (hK _ ?_); clear hK K
            refine Dr.plan_end rfl ?_
            go_wp2
            go_meet
            case rel => exact ⟨rfl, hb16, hB16, hr16⟩
        case rest =>
          clear hb11 hB11 hr11
          obtain ⟨rfl, hb16, hB16, hr16⟩ := hcut
          go_upto_region 10 with fail
          obtain ⟨res, hres⟩ : ∃ res : Bool, res = true ↔ ProofOk r lp cost lt := by classical exact ⟨decide (ProofOk r lp cost lt), by simp⟩
          have Hres := Lib.hid hres
          clear hres hv11 hx11
          go_cut [98] (fun z W' => z = .bool false ∧ Below w.heap.size w W' ∧ Blk W' B 92 [.slice A2 n c2, .int .i64 r.keep] ∧ RdAt W' A2 r)
          case first =>
            refine Dr.wp_region_plan 12 [] (.q [0, 1, 3, 4] (.e1 2 (.e1 5 (.e1 6 (.q [7, 8, 9, 10, 11] .done))))) (by kernel_rfl) (by kernel_rfl) ?_
            have hb12 := hb16.drew
            have hB12 := hB16.ext (ext_drew _)
            have hr12 := hr16.ext (ext_drew _)
            clear hb16 hB16 hr16
            generalize World.drew _ = W6 at *
            have q0 := Dr.cell0 (hB12.cell (i := 0) rfl)
            have q1 := Dr.cell0 (hB12.cell (i := 1) rfl)
            refine Dr.plan_q (l := [_, _, _, _]) rfl (fun K hK => ?_)
            iterate 4 (go_big_quiet_step (fail))
            refine wpQuiet_nil (hK _ ?_); clear hK K
            refine Dr.plan_e rfl (by rfl) (fun K hK => ?_)
            go_wp2_with fail
            refine (list_any Q k ck lp W6 hk (by omega) (hp.ext hb12)).mono ?_; rintro e w7 ⟨v7, rfl, hv7, hb13⟩
            refine hK _ _ (.of hb13) ?_; clear hK K
            obtain ⟨A7, c7, rfl, hc7, -, hC7, -⟩ := hv7
            rw [hk] at hc7 ⊢
            refine Dr.plan_e rfl (by rfl) (fun K hK => ?_)
            go_wp2_with fail
            refine (list_any V j cj lt w7 hj (by omega) (ht.ext (ext_trans hb12 hb13))).mono ?_; rintro e w8 ⟨v8, rfl, hv8, hb14⟩
            refine hK _ _ (.of hb14) ?_; clear hK K
            obtain ⟨A8, c8, rfl, hc8, -, hC8, -⟩ := hv8
            rw [hj] at hc8 ⊢
            refine Dr.plan_e rfl (by rfl) (fun K hK => ?_)
            go_wp2_with fail
            refine (ProveBuy_any r A2 n c2 lp A7 k c7 cost lt A8 j c8 w8 res Hres.out hn hn9 hc2 hk h2 hj h3 ((hr12.ext hb13).ext hb14) (hC7.ext hb14) hC8).mono ?_; rintro e w9 ⟨rfl, hb15⟩
            refine hK _ _ (.of hb15) ?_; clear hK K
            have hb17 := ext_trans (ext_trans (ext_trans hb12 hb13) hb14) hb15
            have hB17 := ((hB12.ext hb13).ext hb14).ext hb15
            have hr17 := ((hr12.ext hb13).ext hb14).ext hb15
            clear q0 q1 hb12 hb13 hb14 hb15 hB12 hr12 hC7 hC8 hc7 hc8
            cases res
            · refine Dr.plan_q (l := [_, _, _, _, _]) rfl (fun K hK => ?_)
              iterate 5 (go_big_quiet_step (fail))
              refine wpQuiet_nil (hK _ ?_); clear hK K
              refine Dr.plan_end rfl ?_
              go_wp2
              go_meet
              case rel => exact ⟨rfl, hb17, hB17, hr17⟩
            · obtain rfl := proof_least HM.out (Hres.out.1 rfl)
              refine Dr.plan_q (l := [_, _, _, _, _]) rfl (fun K hK => ?_)
              iterate 5 (go_big_quiet_step (fail))
              refine wpQuiet_nil (hK _ ?_); clear hK K
              refine Dr.plan_end rfl ?_
              go_wp2
              go_meet
              case rel => exact ⟨rfl, hb17, hB17, hr17⟩
          case rest =>
            clear hb16 hB16 hr16
            obtain ⟨rfl, hb17, hB17, hr17⟩ := hcut
            obtain ⟨i, hi, hti⟩ := tmod_nat (z := more) (n := 10) hmr.1 (by omega)
            have x1 := hB17.cell (i := 1) rfl
            have f1 := hB17.free 1
            have hi' : (i : Int) < 10 := by omega
            have fin : ∀ (k2 : Int) (W' : World), r.keep ≤ k2 → k2 ≤ 10 → Below w.heap.size w W' → RdAt W' A2 ⟨r.days, k2⟩ →
                Calls Try.prog 54 #[.agg #[.slice A2 n c2, .int .i64 k2]] W' fun e w' => ∃ v x c, e = .returned (.tuple #[v, .int .i64 c, x, .int .i64 0]) ∧ c ≤ r.tbl 0 ∧ Below w.heap.size w w' := by
              intro k2 W' hk1 hk2 hbw hrd
              have hok2 : (Rd.mk r.days k2).ok := ⟨hok.1, ⟨by show 1 ≤ k2; omega, hk2⟩, hok.2.2⟩
              have hle := keep_more (days := r.days) (k1 := r.keep) (k2 := k2) hok hok2 hk1 HM.out
              have hM2 : (Rd.mk r.days k2).tbl 0 < 1000000000 := by have := HM.out; have e : (Rd.mk r.days r.keep).tbl 0 = r.tbl 0 := rfl; omega
              refine (Buy_any ⟨r.days, k2⟩ A2 n c2 W' hn hn9 hc2 hrd).mono ?_
              rintro e w' ⟨v, x, rfl, -, -, hbl⟩
              rw [buyR_some ((Rd.okB_iff _).2 hok2) hM2]
              exact ⟨v, x, _, rfl, hle, ext_trans hbw hbl⟩
            have Fin := Lib.hid fin
            clear fin
            go_upto_region 13 with fail
            have hkk : ∃ k2 : Int, k2 = (if r.keep + more % 10 < 10 then r.keep + more % 10 else 10) ∧ r.keep ≤ k2 ∧ k2 ≤ 10 := ⟨_, rfl, by split <;> omega, by split <;> omega⟩
            obtain ⟨k2, hk2, hk3, hk4⟩ := hkk
            rw [← hk2]
            have hb18 : Below w.heap.size w (wc.setCell ⟨B, 1, none⟩ (.int .i64 k2)) := hb17.setCell (by simpa using hge) _
            have hB18 := hB17.set 1 (.int .i64 k2)
            have hr18 : RdAt (wc.setCell ⟨B, 1, none⟩ (.int .i64 k2)) A2 ⟨r.days, k2⟩ := Cells.setCell hr17 (fun hq => hA2' _ hq rfl) _
            simp only [List.set_cons_succ, List.set_cons_zero] at hB18
            clear x1 f1 hb17 hB17 hr17 hk2
            generalize wc.setCell ⟨B, 1, none⟩ (.int .i64 k2) = W5 at *
            have x0 : W5.cell? ⟨B, 0, none⟩ = _ := hB18.cell rfl
            have x1 : W5.cell? ⟨B, 1, none⟩ = _ := hB18.cell rfl
            go_wp2_with fail
            refine (Fin.out k2 W5 hk3 hk4 hb18 hr18).mono ?_; rintro e w6 ⟨v6, x6, c6, rfl, hle, hb19⟩
            go_wp2_with fail
            refine (wakes_any _).mono ?_; rintro e w7 ⟨rfl, hb20⟩
            go_wp2
            go_ret
            exact ⟨rfl, ext_trans hb19 hb20⟩
      · rw [buyR_none Hok0.out hM] at hv3 hx3 ⊢
        obtain ⟨a, b, hs, hab⟩ := spend_vs Hok0.out lo
        obtain rfl : b = 2 := by
          rcases hab with ⟨_, _, h⟩ | h
          · exact absurd h hM
          · exact h
        have Hs := Lib.hid hs
        clear hab hs hM hv3 hx3
        go_upto_region 5 with fail
        refine Dr.wp_region_plan 9 [] (.q [0, 1] (.e1 2 (.e1 3 (.q [4, 5, 6, 7, 8] .done)))) (by kernel_rfl) (by kernel_rfl) ?_
        have hb8 := hb7.drew
        have hB8 := hB7.ext (ext_drew _)
        have hr8 := hr7.ext (ext_drew _)
        clear hb7 hB7 hr7
        generalize World.drew _ = W3 at *
        have q0 := Dr.cell0 (hB8.cell (i := 0) rfl)
        have q1 := Dr.cell0 (hB8.cell (i := 1) rfl)
        refine Dr.plan_q (l := [_, _]) rfl (fun K hK => ?_)
        iterate 2 (go_big_quiet_step (fail))
        refine wpQuiet_nil (hK _ ?_); clear hK K
        refine Dr.plan_e rfl (by rfl) (fun K hK => ?_)
        go_wp2_with fail
        refine (list_any P m cm lo W3 hm (by omega) (ho.ext hb8)).mono ?_; rintro e w4 ⟨v4, rfl, hv4, hb9⟩
        refine hK _ _ (.of hb9) ?_; clear hK K
        obtain ⟨A4, c4, rfl, hc4, -, hC4, -⟩ := hv4
        rw [hm] at hc4 ⊢
        refine Dr.plan_e rfl (by rfl) (fun K hK => ?_)
        go_wp2_with fail
        refine (Spend_any r A2 n c2 lo A4 m c4 w4 hn hn9 hc2 hm h1 (hr8.ext hb9) hC4).mono ?_; rintro e w5 ⟨rfl, hb10⟩
        refine hK _ _ (.of hb10) ?_; clear hK K
        rw [Hs.out]
        have hb11 := ext_trans (ext_trans hb8 hb9) hb10
        have hB11 := (hB8.ext hb9).ext hb10
        have hr11 := (hr8.ext hb9).ext hb10
        clear hb8 hb9 hb10 hB8 hr8 hC4 hc4 q0 q1
        refine Dr.plan_q (l := [_, _, _, _, _]) rfl (fun K hK => ?_)
        iterate 5 (go_big_quiet_step (fail))
        refine wpQuiet_nil (hK _ ?_); clear hK K
        refine Dr.plan_end rfl ?_
        go_wp2_with fail
        refine (wakes_any _).mono ?_; rintro e w6 ⟨rfl, hb12⟩
        go_wp2
        go_ret
        exact ⟨rfl, ext_trans hb11 hb12⟩
    · by_cases h1 : m ≤ 40
      · have h1' : ¬ (40 : Int) < (m : Int) := by omega
        by_cases h2 : k ≤ 40
        · have h2' : ¬ (40 : Int) < (k : Int) := by omega
          have h3' : (40 : Int) < (j : Int) := by omega
          clear hok hd ho hp ht h40
          go_enter Try.func13, Try.ntmps13
          go_wp2_with fail
          refine HR.out.mono ?_; rintro e w1 ⟨rfl, hb1⟩
          go_wp2_with fail
          refine (wakes_any _).mono ?_; rintro e w2 ⟨rfl, hb2⟩
          go_wp2
          go_ret
          exact ⟨rfl, ext_trans (ext_trans hb0 hb1) hb2⟩
        · have h2' : (40 : Int) < (k : Int) := by omega
          clear hok hd ho hp ht h40
          go_enter Try.func13, Try.ntmps13
          go_wp2_with fail
          refine HR.out.mono ?_; rintro e w1 ⟨rfl, hb1⟩
          go_wp2_with fail
          refine (wakes_any _).mono ?_; rintro e w2 ⟨rfl, hb2⟩
          go_wp2
          go_ret
          exact ⟨rfl, ext_trans (ext_trans hb0 hb1) hb2⟩
      · have h1' : (40 : Int) < (m : Int) := by omega
        clear hok hd ho hp ht h40
        go_enter Try.func13, Try.ntmps13
        go_wp2_with fail
        refine HR.out.mono ?_; rintro e w1 ⟨rfl, hb1⟩
        go_wp2_with fail
        refine (wakes_any _).mono ?_; rintro e w2 ⟨rfl, hb2⟩
        go_wp2
        go_ret
        exact ⟨rfl, ext_trans (ext_trans hb0 hb1) hb2⟩
end Go.Proofs.Ytopfhinnamhoiaa

/- The law YardProves, walked. -/
import Derived.Deep.DeepCutAuto
import Derived.Test.YtopfhinnamhoiaaBuyH
namespace Go.Proofs.Ytopfhinnamhoiaa
open Go.RowKit Go.Bs Go.Yd Go.Pl Go.Sort

set_option maxRecDepth 100000 in
set_option maxHeartbeats 4000000 in
theorem proves_law (r : Rd) (A : Option Addr) (n cap : Nat) (P : Option Addr) (m cm : Nat) (lp : List Int) (cost : Int) (V : Option Addr) (k ck : Nat) (lt : List Int) (own : Bool) (at_ by_ : Int) (w : World) (hn : r.days.length = n) (hn9 : n ≤ 9223372036854775807) (hm : lp.length = m) (hk : lt.length = k) (hm9 : m ≤ 9223372036854775807) (hk9 : k ≤ 9223372036854775807) (hz : 0 ≤ at_ ∧ at_ ≤ 255) (hd : RdAt w A r) (hp : Cells w P 1 encI lp) (ht : Cells w V 1 encI lt) :
    Calls Try.prog 12 #[.agg #[.slice A n cap, .int .i64 r.keep], .slice P m cm, .int .i64 cost, .slice V k ck, .bool own, .int .u8 at_, .int .i64 by_] w fun e w' => e = .returned (.bool true) ∧ Below w.heap.size w w' := by
  have hb0 := ext_alloc w (.cells #[.slice A n cap, .int .i64 r.keep] 87)
  have hB := Blk.new w 87 [.slice A n cap, .int .i64 r.keep]
  by_cases h40 : n ≤ 35 ∧ m ≤ 40 ∧ k ≤ 40
  · obtain ⟨h35, hm40, hk40⟩ := h40
    have h1' : ¬ (35 : Int) < (n : Int) := by omega
    have h2' : ¬ (40 : Int) < (m : Int) := by omega
    have h3' : ¬ (40 : Int) < (k : Int) := by omega
    have Hn := Lib.hid hn
    have HR := fun W (h : RdAt W A r) => RightRoad_any r A n cap W hn hn9 h
    have HRd := Lib.hid HR
    clear HR
    generalize hokv : r.okB = okv at *
    have Hok := Lib.hid hokv
    clear hokv
    go_enter Try.func12, Try.ntmps12
    go_upto_region 3 with fail
    change Blk (w.alloc (.cells #[.slice A n cap, .int .i64 r.keep] 87)) w.heap.size 87 [.slice A n cap, .int .i64 r.keep] at hB
    generalize w.alloc (.cells #[.slice A n cap, .int .i64 r.keep] 87) = W0 at *
    go_wp2_with fail
    refine (list_own P m cm lp W0 hm (by omega) (hp.ext hb0)).mono ?_; rintro e w1 ⟨v1, rfl, hv1, hb1⟩
    go_wp2_with fail
    refine (list_own V k ck lt w1 hk (by omega) (ht.ext (ext_trans hb0 hb1))).mono ?_; rintro e w2 ⟨v2, rfl, hv2, hb2⟩
    have hb3 := ext_trans (ext_trans hb0 hb1) hb2
    have hB3 := (hB.ext hb1).ext hb2
    have hv1' := hv1.ext hb2
    clear hb0 hb1 hb2 hB hv1
    obtain ⟨A1, c1, rfl, hc1, -, hC1⟩ := hv1'.cells encI_len
    obtain ⟨A2, c2, rfl, hc2, -, hC2⟩ := hv2.cells encI_len
    rw [hm] at hc1 ⊢
    rw [hk] at hc2 ⊢
    clear hv1' hv2
    have x0 : w2.cell? ⟨w.heap.size, 0, none⟩ = _ := hB3.cell rfl
    have x1 : w2.cell? ⟨w.heap.size, 1, none⟩ = _ := hB3.cell rfl
    go_upto_region 4 with fail
    go_cut [45] (fun z W => z = .bool (own && okv) ∧ Below w.heap.size w W ∧ Blk W w.heap.size 87 [.slice A n cap, .int .i64 r.keep] ∧ Cells W A1 1 encI lp ∧ Cells W A2 1 encI lt)
    case first =>
      cases own
      · go_wp2
        go_meet
        case rel => exact ⟨rfl, hb3, hB3, hC1, hC2⟩
      · go_wp2_with fail
        refine (HRd.out w2 (hd.ext hb3)).mono ?_; rintro e w3 ⟨rfl, hb4⟩
        go_wp2
        go_meet
        case rel => exact ⟨rfl, ext_trans hb3 hb4, hB3.ext hb4, hC1.ext hb4, hC2.ext hb4⟩
    case rest =>
      obtain ⟨rfl, hb4, hB4, hC3, hC4⟩ := hcut
      clear hb3 hB3 hC1 hC2 x0 x1
      go_upto_if 45 with fail
      go_cut [2, 15, 16] (fun cz pz tz W => ∃ (cost' : Int) (lp' lt' : List Int) (A1 A2 : Option Addr) (m' k' c1 c2 : Nat), cz = .int .i64 cost' ∧ pz = .slice A1 m' c1 ∧ tz = .slice A2 k' c2 ∧ lp'.length = m' ∧ lt'.length = k' ∧ m' ≤ 40 ∧ k' ≤ 40 ∧ Below w.heap.size w W ∧ Blk W w.heap.size 87 [.slice A n cap, .int .i64 r.keep] ∧ Cells W A1 1 encI lp' ∧ Cells W A2 1 encI lt')
      case first =>
        cases hown : (own && okv)
        · clear hown
          go_wp2
          go_meet
          case rel => exact ⟨cost, lp, lt, A1, A2, m, k, c1, c2, rfl, rfl, rfl, hm, hk, hm40, hk40, hb4, hB4, hC3, hC4⟩
        · obtain ⟨-, rfl⟩ : own = true ∧ okv = true := by simpa using hown
          have hok := (Rd.okB_iff r).1 Hok.out
          have hlen := hok.1
          have hpl := buy_ok hok
          rw [Hn.out] at hlen
          have x0 : wc.cell? ⟨w.heap.size, 0, none⟩ = _ := hB4.cell rfl
          have x1 : wc.cell? ⟨w.heap.size, 1, none⟩ = _ := hB4.cell rfl
          clear hown
          go_wp2_with fail
          refine (Road_any r A n cap wc Hn.out (by omega) (hd.ext hb4)).mono ?_; rintro e w4 ⟨v, rfl, hv4, hb5⟩
          obtain ⟨A4, c4, rfl, hc4, -, hC5, -⟩ := hv4
          rw [Hn.out] at hc4 ⊢
          go_wp2_with fail
          refine (Buy_any r A4 n c4 w4 Hn.out (by omega) hc4 hC5).mono ?_
          rintro e w5 ⟨v, x, rfl, hv5, hx5, hb6⟩
          have hb7 := ext_trans (ext_trans hb4 hb5) hb6
          have hB7 := (hB4.ext hb5).ext hb6
          clear hb4 hb5 hb6 hB4 hC5 hc4 x0 x1
          by_cases hM : r.tbl 0 < 1000000000
          · have hpl2 := (hpl hM).2.2
            have hbd := fun i => Rd.tbl_bd hok i
            rw [buyR_some Hok.out hM] at hv5 hx5 ⊢
            simp only at hv5 hx5 ⊢
            obtain ⟨Ab, cb, rfl, hcb, -, hCb, -⟩ := hv5
            obtain ⟨At, ct, rfl, hct, -, hCt, -⟩ := hx5
            rw [Hn.out] at hpl2
            generalize natsI r.planN = pl at *
            obtain ⟨mp, hmp⟩ : ∃ mp, pl.length = mp := ⟨_, rfl⟩
            have htl : (tab (r.days.length + 1) r.tbl).length = n + 1 := by rw [tab_len, Hn.out]
            have htg : ∀ i, i < n + 1 → (tab (r.days.length + 1) r.tbl)[i]? = some (r.tbl i) := fun i hi => tab_get _ (by rw [Hn.out]; exact hi)
            generalize tab (r.days.length + 1) r.tbl = tb at *
            rw [hmp] at hcb hpl2 ⊢
            rw [htl] at hct ⊢
            have Hmp := Lib.hid hmp
            have Htl := Lib.hid htl
            have Htg := Lib.hid htg
            have Hbd := Lib.hid hbd
            clear hpl hmp htl htg hbd hM
            have h00 : ((0 : Int) == 0) = true := rfl
            go_wp2_with fail
            refine (list_own Ab mp cb pl w5 Hmp.out (by omega) hCb).mono ?_; rintro e w6 ⟨v6, rfl, hv6, hb8⟩
            go_wp2_with fail
            refine (list_own At (n + 1) ct tb w6 Htl.out (by omega) (hCt.ext hb8)).mono ?_; rintro e w7 ⟨v7, rfl, hv7, hb9⟩
            have hb10 := ext_trans (ext_trans hb7 hb8) hb9
            have hB10 := (hB7.ext hb8).ext hb9
            have hs56 := hb7.size
            have hlt7 := hB7.lt
            have hs67 := hb8.size
            obtain ⟨A6, c6, rfl, hc6, -, hC6⟩ := (hv6.ext hb9).cells encI_len
            have hA6 := (hv6.ext hb9).block_ge rfl
            have hA6' := fun k hk => (hv6.block_ge rfl k hk)
            obtain ⟨g, cg, hvg, hg1, hg2, hg3, -, hCg, hfg⟩ := hv7.blk encI_len (by rw [Htl.out]; omega)
            subst hvg
            rw [Hmp.out] at hc6 ⊢
            rw [Htl.out] at hg3 ⊢
            have hne : (((n : Int) + 1) == 0) = false := by simp; omega
            have hn0 : ¬ ((n : Int) + 1 = 0) := by omega
            clear hb7 hb8 hb9 hB7 hv6 hv7 hCb hCt
            by_cases hin : -2000 ≤ by_ ∧ by_ ≤ 2000
            · have C1 := Lib.hid (In_t hin)
              obtain ⟨i, hi, hti⟩ := tmod_nat hz.1 (show 1 ≤ n + 1 by omega)
              have hti' : at_.tmod ((n : Int) + 1) = (i : Int) := by rw [← hti]; norm_cast
              have hin' : (i : Int) < (n : Int) + 1 := by omega
              have hi0 : (0 : Int) ≤ (i : Int) := by omega
              have htgi := Htg.out i hi
              have hbdi := Hbd.out i
              obtain ⟨hil, hie⟩ := List.getElem?_eq_some_iff.1 htgi
              obtain ⟨bg, og, eg, -, cg0⟩ := hCg.at1 hil rfl
              cases eg
              rw [hie, Nat.zero_add] at cg0
              generalize r.tbl i = ti at *
              have hfi := hfg i
              have hset := cells_setAt hCg hil (ti + by_)
              have Hset := Lib.hid hset
              clear hset htgi hie hti
              go_wp2_with fail
              refine (C1.out _).mono ?_; rintro e w8 ⟨rfl, rfl⟩
              go_wp2
              go_meet
              case rel =>
                refine ⟨r.tbl 0, pl, tb.set i (ti + by_), A6, some ⟨g, 0, none⟩, mp, n + 1, c6, cg, ?_, rfl, rfl, Hmp.out, by rw [List.length_set]; exact Htl.out, by omega, by omega, ?_, ?_, ?_, ?_⟩
                · rfl
                · exact hb10.setCell (by simp; omega) _
                · exact hB10.other (by simp; omega) _
                · exact hC6.setCell (fun hq => by have := hA6' _ hq; simp at this; omega) _
                · exact Hset.out
            · have C1 := Lib.hid (In_f hin)
              go_wp2_with fail
              refine (C1.out _).mono ?_; rintro e w8 ⟨rfl, rfl⟩
              go_wp2_with fail
              refine (wakes_any _).mono ?_; rintro e w9 ⟨rfl, hb11⟩
              go_wp2
              go_ret
              exact ⟨rfl, ext_trans hb10 hb11⟩
          · rw [buyR_none Hok.out hM]
            clear hv5 hx5 hM hpl
            go_wp2_with fail
            refine (wakes_any _).mono ?_; rintro e w9 ⟨rfl, hb11⟩
            go_wp2
            go_ret
            exact ⟨rfl, ext_trans hb7 hb11⟩
      case rest =>
        obtain ⟨cost', lp', lt', A5, A6, m', k', c5, c6, rfl, rfl, rfl, hm', hk', hm4, hk4, hb5, hB5, hC5, hC6⟩ := hcut
        clear hb4 hB4 hC3 hC4 hp ht
        obtain ⟨res, hres⟩ : ∃ res : Bool, res = true ↔ ProofOk r lp' cost' lt' := by classical exact ⟨decide (ProofOk r lp' cost' lt'), by simp⟩
        have hbad : ¬ ProofOk r lp' cost' lt' → res = false := fun h => by
          cases hr : res
          · rfl
          · exact absurd (hres.1 hr) h
        have Hres := Lib.hid hres
        have Bad := Lib.hid hbad
        have Hm := Lib.hid hm'
        have Hk := Lib.hid hk'
        clear hres hbad hm hk hm' hk'
        go_upto_region 12 with fail
        go_cut [21] (fun z W => z = .bool res ∧ Below w.heap.size w W ∧ Blk W w.heap.size 87 [.slice A n cap, .int .i64 r.keep] ∧ Cells W A5 1 encI lp' ∧ Cells W A6 1 encI lt')
        case first =>
          have x0 : wc.cell? ⟨w.heap.size, 0, none⟩ = _ := hB5.cell rfl
          have x1 : wc.cell? ⟨w.heap.size, 1, none⟩ = _ := hB5.cell rfl
          go_wp2_with fail
          refine (HRd.out wc (hd.ext hb5)).mono ?_; rintro e w6 ⟨rfl, hb6⟩
          have hb7 := ext_trans hb5 hb6
          have hB7 := hB5.ext hb6
          have hC7 := hC5.ext hb6
          have hC8 := hC6.ext hb6
          clear hb5 hb6 hB5 hC5 hC6 x0 x1
          cases okv
          · have Hr := Lib.hid (Bad.out (fun h => by have := h.rd; rw [Hok.out] at this; cases this))
            go_wp2
            go_meet
            case rel => exact ⟨bool_congr Hr.out.symm, hb7, hB7, hC7, hC8⟩
          · have hok := (Rd.okB_iff r).1 Hok.out
            obtain ⟨p, hpp⟩ : ∃ p : Bool, (p = true ↔ PlanOk r lp') := by classical exact ⟨decide (PlanOk r lp'), by simp⟩
            have Hp := Lib.hid hpp
            clear hpp
            have x0 : w6.cell? ⟨w.heap.size, 0, none⟩ = _ := hB7.cell rfl
            have x1 : w6.cell? ⟨w.heap.size, 1, none⟩ = _ := hB7.cell rfl
            go_wp2_with fail
            refine (RPlan_any r hok A n cap lp' A5 m' c5 w6 p Hp.out Hn.out Hm.out hm4 (hd.ext hb7) hC7).mono ?_; rintro e w7 ⟨rfl, hb8⟩
            have hb9 := ext_trans hb7 hb8
            have hB9 := hB7.ext hb8
            have hC9 := hC7.ext hb8
            have hC10 := hC8.ext hb8
            clear hb7 hb8 hB7 hC7 hC8 x0 x1
            cases p
            · have Hr := Lib.hid (Bad.out (fun h => by have := Hp.out.2 h.pl; cases this))
              go_wp2
              go_meet
              case rel => exact ⟨bool_congr Hr.out.symm, hb9, hB9, hC9, hC10⟩
            · have hpo := Hp.out.1 rfl
              have HS := Lib.hid (RSpend_any r hok A n cap lp' A5 m' c5 w7 hpo Hn.out Hm.out hm4 (hd.ext hb9) hC9)
              have Hpo := Lib.hid hpo
              have hspe : spN r lp' lp'.length = spN r lp' m' := by rw [Hm.out]
              generalize spN r lp' m' = sp at *
              have Hsp := Lib.hid hspe
              clear hpo hspe
              have x0 : w7.cell? ⟨w.heap.size, 0, none⟩ = _ := hB9.cell rfl
              have x1 : w7.cell? ⟨w.heap.size, 1, none⟩ = _ := hB9.cell rfl
              go_wp2_with fail
              refine HS.out.mono ?_; rintro e w8 ⟨rfl, hb10⟩
              have hb11 := ext_trans hb9 hb10
              have hB11 := hB9.ext hb10
              have hC11 := hC9.ext hb10
              have hC12 := hC10.ext hb10
              clear hb9 hb10 hB9 hC9 hC10 x0 x1 HS
              by_cases hc : sp = cost'
              · subst hc
                obtain ⟨q, hqq⟩ : ∃ q : Bool, (q = true ↔ TabOk r lt') := by classical exact ⟨decide (TabOk r lt'), by simp⟩
                have Hq := Lib.hid hqq
                clear hqq
                have x0 : w8.cell? ⟨w.heap.size, 0, none⟩ = _ := hB11.cell rfl
                have x1 : w8.cell? ⟨w.heap.size, 1, none⟩ = _ := hB11.cell rfl
                go_wp2_with fail
                refine (RTable_any r hok A n cap lt' A6 k' c6 w8 q Hq.out Hn.out Hk.out hk4 (hd.ext hb11) hC12).mono ?_; rintro e w9 ⟨rfl, hb12⟩
                have hb13 := ext_trans hb11 hb12
                have hB13 := hB11.ext hb12
                have hC13 := hC11.ext hb12
                have hC14 := hC12.ext hb12
                clear hb11 hb12 hB11 hC11 hC12 x0 x1
                cases q
                · have Hr := Lib.hid (Bad.out (fun h => by have := Hq.out.2 h.tb; cases this))
                  go_wp2
                  go_meet
                  case rel => exact ⟨bool_congr Hr.out.symm, hb13, hB13, hC13, hC14⟩
                · have htb := Hq.out.1 rfl
                  have hlen := htb.len
                  obtain ⟨bt, ot, rfl, c0⟩ := tg_at hC14 (i := 0) (by omega)
                  have hk0 : (0 : Int) < (k' : Int) := by rw [Hk.out] at hlen; omega
                  rw [Nat.add_zero] at c0
                  have hg : sp ≤ tg lt' 0 → res = true := fun h => Hres.out.2 ⟨Hok.out, Hpo.out, Hsp.out, htb, h⟩
                  have hbd : ¬ sp ≤ tg lt' 0 → res = false := fun h => Bad.out (fun h2 => h h2.hd)
                  have hrd : res = decide (sp ≤ tg lt' 0) := by
                    by_cases h : sp ≤ tg lt' 0
                    · rw [decide_eq_true h]; exact hg h
                    · rw [decide_eq_false h]; exact hbd h
                  have Hrd := Lib.hid hrd
                  clear hg hbd htb hlen hrd
                  generalize tg lt' 0 = t0 at *
                  go_wp2
                  go_meet
                  case rel => exact ⟨bool_congr Hrd.out.symm, hb13, hB13, hC13, hC14⟩
              · have Hr := Lib.hid (Bad.out (fun h => hc (Hsp.out.symm.trans h.ct)))
                have hc' : (sp == cost') = false := by simpa using hc
                go_wp2
                go_meet
                case rel => exact ⟨bool_congr Hr.out.symm, hb11, hB11, hC11, hC12⟩
        case rest =>
          obtain ⟨rfl, hb6, hB6, hC7, hC8⟩ := hcut
          clear hb5 hB5 hC5 hC6
          have x0 : wc.cell? ⟨w.heap.size, 0, none⟩ = _ := hB6.cell rfl
          have x1 : wc.cell? ⟨w.heap.size, 1, none⟩ = _ := hB6.cell rfl
          go_wp2_with fail
          refine (Road_any r A n cap wc Hn.out (by omega) (hd.ext hb6)).mono ?_; rintro e w7 ⟨v7, rfl, hv7, hb7⟩
          obtain ⟨A7, c7, rfl, hc7, -, hC9, -⟩ := hv7
          rw [Hn.out] at hc7 ⊢
          go_wp2_with fail
          refine (list_any A5 m' c5 lp' w7 Hm.out (by omega) (hC7.ext hb7)).mono ?_; rintro e w8 ⟨v8, rfl, hv8, hb8⟩
          obtain ⟨A8, c8, rfl, -, -, hC10, -⟩ := hv8
          rw [Hm.out]
          go_wp2_with fail
          refine (list_any A6 k' c6 lt' w8 Hk.out (by omega) ((hC8.ext hb7).ext hb8)).mono ?_; rintro e w9 ⟨v9, rfl, hv9, hb9⟩
          obtain ⟨A9, c9, rfl, -, -, hC11, -⟩ := hv9
          rw [Hk.out]
          go_wp2_with fail
          refine (ProveBuy_any r A7 n c7 lp' A8 m' c8 cost' lt' A9 k' c9 w9 res Hres.out Hn.out hn9 hc7 Hm.out hm4 Hk.out hk4 ((RdAt.ext (r := r) hC9 hb8).ext hb9) (hC10.ext hb9) hC11).mono ?_; rintro e w10 ⟨rfl, hb10⟩
          have hb11 := ext_trans (ext_trans (ext_trans (ext_trans hb6 hb7) hb8) hb9) hb10
          clear hb6 hb7 hb8 hb9 hb10 hB6 hC7 hC8 hC9 hC10 hC11 x0 x1
          cases res
          · go_wp2_with fail
            refine (wakes_any _).mono ?_; rintro e w11 ⟨rfl, hb12⟩
            go_wp2
            go_ret
            exact ⟨rfl, ext_trans hb11 hb12⟩
          · go_wp2_with fail
            refine (wakes_any _).mono ?_; rintro e w11 ⟨rfl, hb12⟩
            go_wp2
            go_ret
            exact ⟨rfl, ext_trans hb11 hb12⟩
  · clear hd hp ht
    by_cases h1 : n ≤ 35
    · have h1' : ¬ (35 : Int) < (n : Int) := by omega
      by_cases h2 : m ≤ 40
      · have h2' : ¬ (40 : Int) < (m : Int) := by omega
        have h3' : (40 : Int) < (k : Int) := by omega
        clear h40
        go_enter Try.func12, Try.ntmps12
        go_wp2_with fail
        refine (wakes_any _).mono ?_; rintro e w2 ⟨rfl, hb2⟩
        go_wp2
        go_ret
        exact ⟨rfl, ext_trans hb0 hb2⟩
      · have h2' : (40 : Int) < (m : Int) := by omega
        clear h40
        go_enter Try.func12, Try.ntmps12
        go_wp2_with fail
        refine (wakes_any _).mono ?_; rintro e w2 ⟨rfl, hb2⟩
        go_wp2
        go_ret
        exact ⟨rfl, ext_trans hb0 hb2⟩
    · have h1' : (35 : Int) < (n : Int) := by omega
      clear h40
      go_enter Try.func12, Try.ntmps12
      go_wp2_with fail
      refine (wakes_any _).mono ?_; rintro e w2 ⟨rfl, hb2⟩
      go_wp2
      go_ret
      exact ⟨rfl, ext_trans hb0 hb2⟩
end Go.Proofs.Ytopfhinnamhoiaa

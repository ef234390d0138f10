/- The law YardFed, walked. -/
import Derived.Deep.DeepCutAuto
import Derived.Test.YtopfhinnamhoiaaRoadT
namespace Go.Proofs.Ytopfhinnamhoiaa
open Go.RowKit Go.Bs Go.Yd Go.Pl Go.Sort

theorem dayCost_bd {r : Rd} {l : List Int} (hp : PlanOk r l) (hok : r.ok) {t k : Nat} (hk : k ≤ l.length) (h40 : l.length ≤ 40) : 0 ≤ dayCost r l t k ∧ dayCost r l t k ≤ 100000000000 := by
  unfold dayCost
  by_cases h0 : k = 0
  · rw [if_pos h0]; omega
  · rw [if_neg h0]
    have h1 := hp.spN_bd hok (k - 1) (by omega)
    have h2 := Rd.price_nonneg hok (hp.q_lt (i := k - 1) (by omega)) t
    unfold Rd.price at h2
    have : ((k - 1 : Nat) : Int) * 300100000 ≤ 40 * 300100000 := Int.mul_le_mul_of_nonneg_right (by omega) (by omega)
    omega

theorem beq_nat (a b : Nat) : ((a : Int) == (b : Int)) = decide (a = b) := by
  by_cases h : a = b
  · subst h; simp
  · rw [decide_eq_false h, beq_eq_false_iff_ne]; omega

/-- the last purchase ahead -/
def lastN (r : Rd) (l : List Int) (k : Nat) : Int := if k = 0 then -1 else qd r l (k - 1)

set_option maxRecDepth 100000 in
set_option maxHeartbeats 4000000 in
theorem fed_law (r : Rd) (A : Option Addr) (n cap : Nat) (V : Option Addr) (m cm : Nat) (l : List Int) (w : World) (hn : r.days.length = n) (hn9 : n ≤ 9223372036854775807) (hcap : n ≤ cap) (hm : l.length = m) (hm9 : m ≤ 9223372036854775807) (hd : RdAt w A r) (hv : Cells w V 1 encI l) :
    Calls Try.prog 10 #[.agg #[.slice A n cap, .int .i64 r.keep], .slice V m cm] w fun e w' => e = .returned (.bool true) ∧ Below w.heap.size w w' := by
  have hb0 := ext_alloc w (.cells #[.slice A n cap, .int .i64 r.keep] 87)
  have hB := Blk.new w 87 [.slice A n cap, .int .i64 r.keep]
  have HR := Lib.hid (RightRoad_any r A n cap _ hn hn9 (hd.ext hb0))
  cases hok0 : r.okB
  · rw [hok0] at HR
    clear hok0 hd hv hB hn9 hm9
    go_enter Try.func10, Try.ntmps10
    go_wp2_with fail
    refine HR.out.mono ?_; rintro e w1 ⟨rfl, hb1⟩
    go_wp2_with fail
    refine (wakes_any _).mono ?_; rintro e w2 ⟨rfl, hb2⟩
    go_wp2
    go_ret
    exact ⟨rfl, ext_trans (ext_trans hb0 hb1) hb2⟩
  · have hok := (Rd.okB_iff r).1 hok0
    rw [hok0] at HR
    have Hok0 := Lib.hid hok0
    clear hok0
    by_cases h40 : m ≤ 40
    · have h40' : ¬ (40 : Int) < (m : Int) := by omega
      have hlen := hok.1
      rw [hn] at hlen
      have HP : ∃ p : Bool, (p = true ↔ PlanOk r l) := by classical exact ⟨decide (PlanOk r l), by simp⟩
      obtain ⟨p, hp⟩ := HP
      have Hp := Lib.hid hp
      clear hp
      have Hn := Lib.hid hn
      have Hm := Lib.hid hm
      go_enter Try.func10, Try.ntmps10
      go_wp2_with fail
      change Blk (w.alloc (.cells #[.slice A n cap, .int .i64 r.keep] 87)) w.heap.size 87 [.slice A n cap, .int .i64 r.keep] at hB
      refine HR.out.mono ?_; rintro e w1 ⟨rfl, hb1⟩
      have hb2 := ext_trans hb0 hb1
      have hB2 := hB.ext hb1
      have x0 : w1.cell? ⟨w.heap.size, 0, none⟩ = _ := hB2.cell rfl
      have x1 : w1.cell? ⟨w.heap.size, 1, none⟩ = _ := hB2.cell rfl
      clear hb0 hb1 hB HR
      go_wp2_with fail
      refine (Road_any r A n cap w1 hn (by omega) (hd.ext hb2)).mono ?_
      rintro e w2 ⟨v, rfl, hv2, hb3⟩
      obtain ⟨A2, c2, rfl, hc2, -, hC2, -⟩ := hv2
      rw [hn] at hc2 ⊢
      have hb4 := ext_trans hb2 hb3
      have hB4 := hB2.ext hb3
      clear hb2 hb3 hB2 x0 x1
      go_wp2_with fail
      refine (list_any V m cm l w2 hm (by omega) (hv.ext hb4)).mono ?_
      rintro e w3 ⟨v, rfl, hv3, hb5⟩
      obtain ⟨A3, c3, rfl, hc3, -, hC3, -⟩ := hv3
      rw [hm] at hc3 ⊢
      have hb6 := ext_trans hb4 hb5
      have hB6 := hB4.ext hb5
      have hC26 := Cells.ext hC2 hb5
      clear hb4 hb5 hB4 hC2
      go_wp2_with fail
      refine (Spend_any r A2 n c2 l A3 m c3 w3 hn hn9 hc2 hm h40 hC26 hC3).mono ?_
      rintro e w4 ⟨rfl, hb7⟩
      have hb8 := ext_trans hb6 hb7
      have hB8 := hB6.ext hb7
      clear hb6 hb7 hB6 hC26 hC3 hc2 hc3
      cases p
      · rw [spendR_no Hok0.out (fun h => by have := Hp.out.2 h; cases this)]
        go_wp2_with fail
        refine (wakes_any _).mono ?_; rintro e w5 ⟨rfl, hb9⟩
        go_wp2
        go_ret
        exact ⟨rfl, ext_trans hb8 hb9⟩
      · have hpo := Hp.out.1 rfl
        rw [spendR_ok Hok0.out hpo]
        have Hpo := Lib.hid hpo
        have hend : dayCost r l n m = spN r l m := by rw [← hn, ← hm]; exact dayCost_end r l
        have Hend := Lib.hid hend
        clear hpo hend Hp
        rw [hm]
        dsimp only
        generalize spN r l m = sp at *
        go_wp2
        go_loopw [7, 8, 9, 10] (fun c la k x wr => ∃ kk t : Nat, x = .int .i64 t ∧ t ≤ n ∧ k = .int .i64 kk ∧ kk ≤ m ∧ c = .int .i64 (dayCost r l t kk) ∧ la = .int .i64 (lastN r l kk) ∧ Hid ((0 < kk → qd r l (kk - 1) < t) ∧ t ≤ qd r l kk) ∧ Below w4.heap.size w4 wr) (fun _ _ _ x _ => n - (intOf x).toNat)
        case atStart => exact ⟨0, 0, rfl, by omega, rfl, by omega, rfl, rfl, Lib.hid ⟨fun h => by omega, by omega⟩, Below.refl _ _⟩
        case round =>
          obtain ⟨kk, t, rfl, ht, rfl, hkk, rfl, rfl, Hq, hb⟩ := hrel
          have hBr := hB8.ext hb
          have x0 : wr.cell? ⟨w.heap.size, 0, none⟩ = _ := hBr.cell rfl
          by_cases hlt : t < n
          · have hlt' : (t : Int) < (n : Int) := by omega
            have ht0 : (0 : Int) ≤ (t : Int) := by omega
            have hk0 : (0 : Int) ≤ (kk : Int) := by omega
            obtain ⟨bd, od, rfl, -, c0, c1, c2, c3⟩ := (hd.ext (ext_trans hb8 hb)).day (k := t) (by rw [Hn.out]; exact hlt)
            go_upto_region 10 with fail
            go_cut [53] (fun z W => z = .bool (decide (kk < m ∧ qd r l kk = t)) ∧ W = wr)
            case first =>
              by_cases hkm : kk < m
              · have hkm' : (kk : Int) < (m : Int) := by omega
                have hkl : kk < l.length := by rw [Hm.out]; exact hkm
                have hq : l[kk] = ((qd r l kk : Nat) : Int) := by rw [qd_at hkl]; have := Hpo.out.rng kk hkl; omega
                obtain ⟨bv, ov, rfl, -, e0⟩ := (hv.ext (ext_trans hb8 hb)).at1 hkl rfl
                rw [hq] at e0
                generalize qd r l kk = qk at *
                clear hq c0 c1 c2 c3
                go_wp2
                go_meet
                case rel => exact ⟨bool_congr (by rw [beq_nat]; simp [hkm]), rfl⟩
              · have hkm' : ¬ (kk : Int) < (m : Int) := by omega
                clear c0 c1 c2 c3
                go_wp2
                go_meet
                case rel => exact ⟨bool_congr (by simp [hkm]), rfl⟩
            case rest =>
              obtain ⟨rfl, rfl⟩ := hcut
              have hday := Rd.day_ok hok (i := t) (by rw [Hn.out]; exact hlt)
              have hcb := fun t k (hk : k ≤ m) => dayCost_bd (t := t) (k := k) Hpo.out hok (by rw [Hm.out]; exact hk) (by rw [Hm.out]; exact h40)
              have Hday := Lib.hid hday
              have Hcb := Lib.hid hcb
              clear hday hcb
              go_upto_if 53 with fail
              go_cut [7, 8, 9] (fun c la k W => ∃ kk' : Nat, k = .int .i64 kk' ∧ kk' ≤ m ∧ c = .int .i64 (dayCost r l t kk') ∧ la = .int .i64 (lastN r l kk') ∧ Hid ((0 < kk' → qd r l (kk' - 1) < t + 1) ∧ t + 1 ≤ qd r l kk') ∧ W = wc)
              case first =>
                by_cases hc : kk < m ∧ qd r l kk = t
                · have ho : (r.day t).opn = true := by
                    have := Hpo.out.opn kk (by rw [Hm.out]; exact hc.1)
                    rwa [← qd_at (r := r) (by rw [Hm.out]; exact hc.1), hc.2] at this
                  have hq1 : t + 1 ≤ qd r l (kk + 1) := by
                    have := Hpo.out.q_inc (i := kk) (by rw [Hm.out]; exact hc.1)
                    omega
                  have hbuy := dayCost_buy (r := r) (l := l) (t := t) (k := kk) hc.2
                  have hla : lastN r l (kk + 1) = t := by unfold lastN; rw [if_neg (Nat.succ_ne_zero kk), Nat.add_sub_cancel, hc.2]
                  have hcb := Hcb.out t kk hkk
                  have htr := Hday.out.2.2
                  have hq2 : qd r l kk < t + 1 := by omega
                  rw [ho] at c3
                  rw [decide_eq_true hc]
                  have Hla := Lib.hid hla
                  have Hbuy := Lib.hid hbuy
                  have Hq1 := Lib.hid hq1
                  have Hq2 := Lib.hid hq2
                  have hk1 : kk + 1 ≤ m := hc.1
                  clear ho hq1 hbuy hla c0 c1 hc hq2
                  generalize dayCost r l t kk = dc at *
                  generalize (r.day t).trip = tr at *
                  go_wp2
                  go_meet
                  case rel => exact ⟨kk + 1, by go_num, hk1, int_congr Hbuy.out.symm, int_congr Hla.out.symm, Lib.hid ⟨fun _ => by rw [Nat.add_sub_cancel]; exact Hq2.out, Hq1.out⟩, rfl⟩
                · rw [decide_eq_false hc]
                  have hq1 : t + 1 ≤ qd r l kk := by
                    have h1 := Hq.out.2
                    by_cases h2 : kk < m
                    · have : qd r l kk ≠ t := fun h => hc ⟨h2, h⟩
                      omega
                    · have : qd r l kk = n := by rw [qd_end (by rw [Hm.out]; omega), Hn.out]
                      omega
                  have Hq1 := Lib.hid hq1
                  clear hc hq1 c0 c1 c2 c3
                  go_wp2
                  go_meet
                  case rel => exact ⟨kk, rfl, hkk, rfl, rfl, Lib.hid ⟨fun h => by have := Hq.out.1 h; omega, Hq1.out⟩, rfl⟩
              case rest =>
                obtain ⟨kk', rfl, hkk', rfl, rfl, Hq', rfl⟩ := hcut
                clear c2 c3 Hq hkk hk0
                have hk0 : (0 : Int) ≤ (kk' : Int) := by omega
                by_cases hnd : 0 < (r.day t).need
                · have hkp : 0 < kk' := by
                    by_cases h0 : 0 < kk'
                    · exact h0
                    · obtain rfl : kk' = 0 := by omega
                      have := Hpo.out.before hok (t := t) (by have := Hq'.out.2; omega)
                      omega
                  have hkl : kk' - 1 < l.length := by rw [Hm.out]; omega
                  have hla : lastN r l kk' = (qd r l (kk' - 1) : Nat) := by unfold lastN; rw [if_neg (by omega)]
                  have hp1 := Hq'.out.1 hkp
                  have hfd := Hpo.out.feed hok (i := kk' - 1) (t := t) hkl (by rw [show kk' - 1 + 1 = kk' by omega]; have := Hq'.out.2; omega) hnd
                  have heat := dayCost_eat (r := r) (l := l) (t := t) (k := kk') hkp (by omega) (by rw [Hn.out]; exact hlt)
                  have hla2 := hla
                  rw [hla]
                  have hcb := Hcb.out t kk' hkk'
                  have hd1 := Hday.out.1
                  have hpn : qd r l (kk' - 1) < n := by omega
                  have hd2 := (Rd.day_ok hok (i := qd r l (kk' - 1)) (by rw [Hn.out]; exact hpn)).2.1
                  have hmul := mul_bd hd1.1 hd1.2 hd2.1 hd2.2
                  have Heat := Lib.hid heat
                  have Hla := Lib.hid hla2
                  clear heat hla hla2 hkl
                  generalize hpq : qd r l (kk' - 1) = pq at *
                  have Hpq := Lib.hid hpq
                  clear hpq
                  obtain ⟨bd', od', eA, -, -, d1, -, -⟩ := (hd.ext (ext_trans hb8 hb)).day (k := pq) (by rw [Hn.out]; exact hpn)
                  cases eA
                  generalize dayCost r l t kk' = dc at *
                  generalize (r.day t).need = nd at *
                  generalize (r.day pq).price = pr at *
                  have hp0 : ¬ (pq : Int) < 0 := by omega
                  have hp0' : (0 : Int) ≤ (pq : Int) := by omega
                  have hpn' : (pq : Int) < (n : Int) := by omega
                  have hkl : ¬ r.keep ≤ (t : Int) - (pq : Int) := by omega
                  have x1 := hBr.cell (i := 1) rfl
                  go_upto_region 19 with fail
                  have Hm2 := Lib.hid hmul
                  clear x0 x1
                  refine Dr.wp_region_plan 16 [] (.q [0, 1, 2, 3, 4, 5, 6, 7, 8, 9, 10, 11, 12, 13, 14, 15] .done) (by kernel_rfl) (by kernel_rfl) ?_
                  have hb' := hb.drew
                  have q0 := Dr.cell0 (hBr.drew.cell (i := 0) rfl)
                  have q1 := Dr.cell0 (cell_ext c0 (ext_drew _))
                  have q2 := Dr.cell0 (cell_ext d1 (ext_drew _))
                  clear hb hBr c0 c1 d1
                  generalize World.drew _ = W5 at *
                  refine Dr.plan_q (l := [_, _, _, _, _, _, _, _, _, _, _, _, _, _, _, _]) rfl (fun K hK => ?_)
                  iterate 16 (go_big_quiet_step (fail))
                  refine wpQuiet_nil (hK _ ?_); clear hK K
                  refine Dr.plan_end rfl ?_
                  clear q0 q1 q2
                  go_wp2
                  go_roundw
                  case rel => exact ⟨kk', t + 1, by go_num, by omega, rfl, hkk', int_congr Heat.out.symm, int_congr Hla.out.symm, by rw [Hpq.out]; exact Hq', hb'⟩
                  case measure => simp [intOf]; omega
                · have hz : (r.day t).need = 0 := by have := Hday.out.1.1; omega
                  have hsame : dayCost r l (t + 1) kk' = dayCost r l t kk' := by
                    by_cases h0 : kk' = 0
                    · subst h0; rfl
                    · rw [dayCost_eat (by omega) (by have := Hq'.out.1 (by omega); omega) (by rw [Hn.out]; exact hlt), hz]; simp
                  have Hsame := Lib.hid hsame
                  rw [hz] at c0
                  clear hnd hz hsame c1
                  go_wp2
                  go_roundw
                  case rel => exact ⟨kk', t + 1, by go_num, by omega, rfl, hkk', int_congr Hsame.out.symm, rfl, Hq', hb⟩
                  case measure => simp [intOf]; omega
          · obtain rfl : t = n := by omega
            have hkm : kk = m := by
              have h1 := Hq.out.2
              by_cases h2 : kk < m
              · have := Hpo.out.q_lt (i := kk) (by rw [Hm.out]; exact h2)
                rw [Hn.out] at this; omega
              · omega
            subst hkm
            rw [Hend.out]
            go_wp2_with fail
            refine (wakes_any _).mono ?_; rintro e wa ⟨rfl, hba⟩
            go_wp2
            go_ret
            exact ⟨rfl, ext_trans (ext_trans hb8 hb) hba⟩
    · have h40' : (40 : Int) < (m : Int) := by omega
      clear hok hd hv
      go_enter Try.func10, Try.ntmps10
      go_wp2_with fail
      refine HR.out.mono ?_; rintro e w1 ⟨rfl, hb1⟩
      go_wp2_with fail
      refine (wakes_any _).mono ?_; rintro e w2 ⟨rfl, hb2⟩
      go_wp2
      go_ret
      exact ⟨rfl, ext_trans (ext_trans hb0 hb1) hb2⟩
end Go.Proofs.Ytopfhinnamhoiaa

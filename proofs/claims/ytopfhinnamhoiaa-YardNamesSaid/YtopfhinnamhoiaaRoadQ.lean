/- Walk: the reference's Spend, Plan; light. -/
import Derived.Deep.DeepCutAuto
import Derived.Test.YtopfhinnamhoiaaSpecQ
namespace Go.Proofs.Ytopfhinnamhoiaa
open Go.RowKit Go.Bs Go.Yd Go.Pl Go.Sort

set_option maxRecDepth 100000 in
set_option maxHeartbeats 4000000 in
theorem RSpend_any (r : Rd) (hok : r.ok) (A : Option Addr) (n cap : Nat) (l : List Int) (V : Option Addr) (m cm : Nat) (w : World) (hp : PlanOk r l) (hn : r.days.length = n) (hm : l.length = m) (h40 : m ≤ 40) (hd : RdAt w A r) (hv : Cells w V 1 encI l) :
    Calls Try.prog 57 #[.agg #[.slice A n cap, .int .i64 r.keep], .slice V m cm] w fun e w' => e = .returned (.int .i64 (spN r l m)) ∧ Below w.heap.size w w' := by
  have hb0 := ext_alloc w (.cells #[.slice A n cap, .int .i64 r.keep] 87)
  have hB := Blk.new w 87 [.slice A n cap, .int .i64 r.keep]
  have hend : dayCost r l n m = spN r l m := by rw [← hn, ← hm]; exact dayCost_end r l
  have hlen := hok.1
  rw [hn] at hlen
  have Hend := Lib.hid hend
  have Hpo := Lib.hid hp
  have Hn := Lib.hid hn
  have Hm := Lib.hid hm
  clear hend hp
  go_enter Try.func57, Try.ntmps57
  go_upto_region 1 with fail
  change Blk (w.alloc (.cells #[.slice A n cap, .int .i64 r.keep] 87)) w.heap.size 87 [.slice A n cap, .int .i64 r.keep] at hB
  generalize w.alloc (.cells #[.slice A n cap, .int .i64 r.keep] 87) = W0 at *
  go_wp2
  go_loopw [5, 6, 7, 8] (fun c la k x wr => ∃ kk t : Nat, x = .int .i64 t ∧ t ≤ n ∧ k = .int .i64 kk ∧ kk ≤ m ∧ c = .int .i64 (dayCost r l t kk) ∧ la = .int .i64 (lastN r l kk) ∧ Hid ((0 < kk → qd r l (kk - 1) < t) ∧ t ≤ qd r l kk) ∧ Below w.heap.size w wr ∧ Blk wr w.heap.size 87 [.slice A n cap, .int .i64 r.keep]) (fun _ _ _ x _ => n - (intOf x).toNat)
  case atStart => exact ⟨0, 0, rfl, by omega, rfl, by omega, rfl, rfl, Lib.hid ⟨fun h => by omega, by omega⟩, hb0, hB⟩
  case round =>
    clear hb0 hB
    obtain ⟨kk, t, rfl, ht, rfl, hkk, rfl, rfl, Hq, hb, hBr⟩ := hrel
    have x0 : wr.cell? ⟨w.heap.size, 0, none⟩ = _ := hBr.cell rfl
    by_cases hlt : t < n
    · have hlt' : (t : Int) < (n : Int) := by omega
      have ht0 : (0 : Int) ≤ (t : Int) := by omega
      have hk0 : (0 : Int) ≤ (kk : Int) := by omega
      obtain ⟨bd, od, rfl, -, c0, c1, c2, c3⟩ := (hd.ext hb).day (k := t) (by rw [Hn.out]; exact hlt)
      go_upto_region 5 with fail
      go_cut [27] (fun z W => z = .bool (decide (kk < m ∧ qd r l kk = t)) ∧ W = wr)
      case first =>
        by_cases hkm : kk < m
        · have hkm' : (kk : Int) < (m : Int) := by omega
          have hkl : kk < l.length := by rw [Hm.out]; exact hkm
          have hq : l[kk] = ((qd r l kk : Nat) : Int) := by rw [qd_at hkl]; have := Hpo.out.rng kk hkl; omega
          obtain ⟨bv, ov, rfl, -, e0⟩ := (hv.ext hb).at1 hkl rfl
          rw [hq] at e0
          generalize qd r l kk = qk at *
          clear hq c0 c1 c2 c3
          go_wp2
          go_meet
          case rel => exact ⟨bool_congr (by rw [beq_nat]; simp [hkm]), rfl⟩
        · have hkm' : ¬ (kk : Int) < (m : Int) := by omega
          clear c0 c1 c2 c3
          go_wp2
          go_meet
          case rel => exact ⟨bool_congr (by simp [hkm]), rfl⟩
      case rest =>
        obtain ⟨rfl, rfl⟩ := hcut
        have hday := Rd.day_ok hok (i := t) (by rw [Hn.out]; exact hlt)
        have hcb := fun t k (hk : k ≤ m) => dayCost_bd (t := t) (k := k) Hpo.out hok (by rw [Hm.out]; exact hk) (by rw [Hm.out]; exact h40)
        have Hday := Lib.hid hday
        have Hcb := Lib.hid hcb
        clear hday hcb
        go_upto_if 27 with fail
        go_cut [5, 6, 7] (fun c la k W => ∃ kk' : Nat, k = .int .i64 kk' ∧ kk' ≤ m ∧ c = .int .i64 (dayCost r l t kk') ∧ la = .int .i64 (lastN r l kk') ∧ Hid ((0 < kk' → qd r l (kk' - 1) < t + 1) ∧ t + 1 ≤ qd r l kk') ∧ W = wc)
        case first =>
          by_cases hc : kk < m ∧ qd r l kk = t
          · have hq1 : t + 1 ≤ qd r l (kk + 1) := by
              have := Hpo.out.q_inc (i := kk) (by rw [Hm.out]; exact hc.1)
              omega
            have hbuy := dayCost_buy (r := r) (l := l) (t := t) (k := kk) hc.2
            have hla : lastN r l (kk + 1) = t := by unfold lastN; rw [if_neg (Nat.succ_ne_zero kk), Nat.add_sub_cancel, hc.2]
            have hcb := Hcb.out t kk hkk
            have htr := Hday.out.2.2
            have hq2 : qd r l kk < t + 1 := by omega
            rw [decide_eq_true hc]
            have Hla := Lib.hid hla
            have Hbuy := Lib.hid hbuy
            have Hq1 := Lib.hid hq1
            have Hq2 := Lib.hid hq2
            have hk1 : kk + 1 ≤ m := hc.1
            clear hq1 hbuy hla c0 c1 c3 hc hq2
            generalize dayCost r l t kk = dc at *
            generalize (r.day t).trip = tr at *
            go_wp2
            go_meet
            case rel => exact ⟨kk + 1, by go_num, hk1, int_congr Hbuy.out.symm, int_congr Hla.out.symm, Lib.hid ⟨fun _ => by rw [Nat.add_sub_cancel]; exact Hq2.out, Hq1.out⟩, rfl⟩
          · rw [decide_eq_false hc]
            have hq1 : t + 1 ≤ qd r l kk := by
              have h1 := Hq.out.2
              by_cases h2 : kk < m
              · have : qd r l kk ≠ t := fun h => hc ⟨h2, h⟩
                omega
              · have : qd r l kk = n := by rw [qd_end (by rw [Hm.out]; omega), Hn.out]
                omega
            have Hq1 := Lib.hid hq1
            clear hc hq1 c0 c1 c2 c3
            go_wp2
            go_meet
            case rel => exact ⟨kk, rfl, hkk, rfl, rfl, Lib.hid ⟨fun h => by have := Hq.out.1 h; omega, Hq1.out⟩, rfl⟩
        case rest =>
          obtain ⟨kk', rfl, hkk', rfl, rfl, Hq', rfl⟩ := hcut
          clear c1 c2 c3 Hq hkk hk0
          have hk0 : (0 : Int) ≤ (kk' : Int) := by omega
          by_cases hkp : 0 < kk'
          · have hkl : kk' - 1 < l.length := by rw [Hm.out]; omega
            have hla : lastN r l kk' = (qd r l (kk' - 1) : Nat) := by unfold lastN; rw [if_neg (by omega)]
            have hp1 := Hq'.out.1 hkp
            have heat := dayCost_eat (r := r) (l := l) (t := t) (k := kk') hkp (by omega) (by rw [Hn.out]; exact hlt)
            rw [Int.mul_comm (r.day t).need] at heat
            have hla2 := hla
            rw [hla]
            have hcb := Hcb.out t kk' hkk'
            have hd1 := Hday.out.1
            have hpn : qd r l (kk' - 1) < n := by omega
            have hd2 := (Rd.day_ok hok (i := qd r l (kk' - 1)) (by rw [Hn.out]; exact hpn)).2.1
            have hmul := mul_bd hd2.1 hd2.2 hd1.1 hd1.2
            have Heat := Lib.hid heat
            have Hla := Lib.hid hla2
            clear heat hla hla2 hkl
            generalize hpq : qd r l (kk' - 1) = pq at *
            have Hpq := Lib.hid hpq
            clear hpq
            obtain ⟨bd', od', eA, -, -, d1, -, -⟩ := (hd.ext hb).day (k := pq) (by rw [Hn.out]; exact hpn)
            cases eA
            generalize dayCost r l t kk' = dc at *
            generalize (r.day t).need = nd at *
            generalize (r.day pq).price = pr at *
            have hp0 : ¬ (pq : Int) < 0 := by omega
            have hp0' : (0 : Int) ≤ (pq : Int) := by omega
            have hpn' : (pq : Int) < (n : Int) := by omega
            go_upto_region 10 with fail
            have Hm2 := Lib.hid hmul
            clear x0
            refine Dr.wp_region_plan 16 [] (.q [0, 1, 2, 3, 4, 5, 6, 7, 8, 9, 10, 11, 12, 13, 14, 15] .done) (by kernel_rfl) (by kernel_rfl) ?_
            have hb' := hb.drew
            have hB' := hBr.drew
            have q0 := Dr.cell0 (hBr.drew.cell (i := 0) rfl)
            have q1 := Dr.cell0 (cell_ext c0 (ext_drew _))
            have q2 := Dr.cell0 (cell_ext d1 (ext_drew _))
            clear hb hBr c0 d1
            generalize World.drew _ = W5 at *
            refine Dr.plan_q (l := [_, _, _, _, _, _, _, _, _, _, _, _, _, _, _, _]) rfl (fun K hK => ?_)
            iterate 16 (go_big_quiet_step (fail))
            refine wpQuiet_nil (hK _ ?_); clear hK K
            refine Dr.plan_end rfl ?_
            clear q0 q1 q2
            go_wp2
            go_roundw
            case rel => exact ⟨kk', t + 1, by go_num, by omega, rfl, hkk', int_congr Heat.out.symm, int_congr Hla.out.symm, by rw [Hpq.out]; exact Hq', hb', hB'⟩
            case measure => simp [intOf]; omega
          · obtain rfl : kk' = 0 := by omega
            have hla : lastN r l 0 = -1 := rfl
            have hdc : dayCost r l t 0 = 0 := rfl
            rw [hla, hdc]
            clear hkp hla c0 hdc
            go_wp2
            go_roundw
            case rel => exact ⟨0, t + 1, by go_num, by omega, rfl, hkk', rfl, rfl, Hq', hb, hBr⟩
            case measure => simp [intOf]; omega
    · obtain rfl : t = n := by omega
      have hkm : kk = m := by
        have h1 := Hq.out.2
        by_cases h2 : kk < m
        · have := Hpo.out.q_lt (i := kk) (by rw [Hm.out]; exact h2)
          rw [Hn.out] at this; omega
        · omega
      subst hkm
      rw [Hend.out]
      go_wp2
      go_ret
      exact ⟨rfl, hb⟩

/-- few days, or somewhat too many -/
def lightB (r : Rd) : Bool := decide (r.days.length ≤ 9) || (decide (30 < r.days.length) && decide (r.days.length ≤ 32))
set_option maxHeartbeats 2000000 in
theorem light_any (r : Rd) (A : Option Addr) (n cap : Nat) (w : World) (hn : r.days.length = n) (hn9 : n ≤ 9223372036854775807) :
    Calls Try.prog 53 #[.agg #[.slice A n cap, .int .i64 r.keep]] w fun e w' => e = .returned (.bool (lightB r)) ∧ Below w.heap.size w w' := by
  have hb0 := ext_alloc w (.cells #[.slice A n cap, .int .i64 r.keep] 87)
  unfold lightB
  rw [hn]
  clear hn
  by_cases h1 : n ≤ 9
  · have h1' : (n : Int) ≤ 9 := by omega
    rw [decide_eq_true h1]
    go_enter Try.func53, Try.ntmps53
    go_wp2
    go_ret
    exact ⟨rfl, hb0⟩
  · have h1' : ¬ (n : Int) ≤ 9 := by omega
    by_cases h2 : 30 < n
    · have h2' : (30 : Int) < (n : Int) := by omega
      by_cases h3 : n ≤ 32
      · have h3' : (n : Int) ≤ 32 := by omega
        rw [decide_eq_false h1, decide_eq_true h2, decide_eq_true h3]
        go_enter Try.func53, Try.ntmps53
        go_wp2
        go_ret
        exact ⟨rfl, hb0⟩
      · have h3' : ¬ (n : Int) ≤ 32 := by omega
        rw [decide_eq_false h1, decide_eq_true h2, decide_eq_false h3]
        go_enter Try.func53, Try.ntmps53
        go_wp2
        go_ret
        exact ⟨rfl, hb0⟩
    · have h2' : ¬ (30 : Int) < (n : Int) := by omega
      rw [decide_eq_false h1, decide_eq_false h2]
      go_enter Try.func53, Try.ntmps53
      go_wp2
      go_ret
      exact ⟨rfl, hb0⟩
end Go.Proofs.Ytopfhinnamhoiaa

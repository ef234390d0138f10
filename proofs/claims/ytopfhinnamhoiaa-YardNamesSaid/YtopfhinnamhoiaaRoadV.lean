/- Walk: the reference's RightTable. -/
import Derived.Deep.DeepCutAuto
import Derived.Test.YtopfhinnamhoiaaRoadU
namespace Go.Proofs.Ytopfhinnamhoiaa
open Go.RowKit Go.Bs Go.Yd Go.Pl Go.Sort

def tg (T : List Int) (i : Nat) : Int := T.getD i 0
structure TabOk (r : Rd) (T : List Int) : Prop where
  len : T.length = r.days.length + 1
  rng : btwB 1000000000 T = true
  fin : tg T r.days.length = 0
  stp : ∀ t, t < r.days.length → (r.day t).need = 0 → tg T t ≤ tg T (t + 1)
  buy : ∀ t, t < r.days.length → (r.day t).opn = true → ∀ s, t < s → s ≤ r.days.length → (s : Int) ≤ t + r.keep → tg T t ≤ r.price t s + tg T s
theorem tg_bd {T : List Int} (h : btwB 1000000000 T = true) (i : Nat) : 0 ≤ tg T i ∧ tg T i ≤ 1000000000 := by
  unfold tg
  by_cases hi : i < T.length
  · have : T.getD i 0 = T[i] := by simp [hi]
    rw [this]
    exact of_decide_eq_true (List.all_eq_true.1 h _ (List.getElem_mem hi))
  · have : T.getD i 0 = 0 := by simp [show T.length ≤ i by omega]
    rw [this]; omega
theorem tg_at {w : World} {V : Option Addr} {T : List Int} (hv : Cells w V 1 encI T) {i : Nat} (hi : i < T.length) : ∃ b off, V = some ⟨b, off, none⟩ ∧ w.cell? ⟨b, off + i, none⟩ = some (.int .i64 (tg T i)) := by
  obtain ⟨b, o, e, -, c⟩ := hv.at1 hi rfl
  refine ⟨b, o, e, ?_⟩
  rw [c]
  simp [tg, hi]
theorem price_step {r : Rd} {t s : Nat} (h1 : t ≤ s) (h2 : s < r.days.length) : r.price t (s + 1) = r.price t s + (r.day t).price * (r.day s).need := by
  unfold Rd.price
  rw [need_succ r h1 h2, Int.mul_add]
  omega
theorem price_self (r : Rd) (t : Nat) : r.price t t = (r.day t).trip := by
  unfold Rd.price
  rw [need_self]; simp

set_option maxRecDepth 100000 in
set_option maxHeartbeats 4000000 in
theorem RTable_any (r : Rd) (hok : r.ok) (A : Option Addr) (n cap : Nat) (T : List Int) (V : Option Addr) (m cm : Nat) (w : World) (res : Bool) (hres : res = true ↔ TabOk r T) (hn : r.days.length = n) (hm : T.length = m) (h40 : m ≤ 40) (hd : RdAt w A r) (hv : Cells w V 1 encI T) :
    Calls Try.prog 59 #[.agg #[.slice A n cap, .int .i64 r.keep], .slice V m cm] w fun e w' => e = .returned (.bool res) ∧ Below w.heap.size w w' := by
  have hb0 := ext_alloc w (.cells #[.slice A n cap, .int .i64 r.keep] 87)
  have hB := Blk.new w 87 [.slice A n cap, .int .i64 r.keep]
  have hlen := hok.1
  rw [hn] at hlen
  have hkeep := hok.2.1
  have hbad : ¬ TabOk r T → res = false := fun h => by
    cases hr : res
    · rfl
    · exact absurd (hres.1 hr) h
  have Bad := Lib.hid hbad
  have Hres := Lib.hid hres
  have Hn := Lib.hid hn
  have Hl := Lib.hid hm
  clear hbad hres
  by_cases hmn : m = n + 1
  · have hmn' : (m : Int) = (n : Int) + 1 := by omega
    have HB := Lib.hid (Between_any V m cm 1000000000 T _ hm (by omega) (hv.ext hb0))
    have Hmn := Lib.hid hmn
    subst hmn
    cases hbt : btwB 1000000000 T
    · have Hr := Lib.hid (Bad.out (fun h => by have := h.rng; rw [hbt] at this; cases this))
      rw [hbt] at HB
      clear hbt
      go_enter Try.func59, Try.ntmps59
      go_wp2_with fail
      refine HB.out.mono ?_; rintro e w1 ⟨rfl, hb1⟩
      go_wp2
      go_ret
      exact ⟨ret_congr (bool_congr Hr.out.symm), ext_trans hb0 hb1⟩
    · have Hbt := Lib.hid hbt
      have Htg := Lib.hid (fun i => tg_bd hbt i)
      rw [hbt] at HB
      clear hbt
      have hlast : ∃ b off, V = some ⟨b, off, none⟩ := by
        obtain ⟨b, off, e, -⟩ := tg_at hv (i := 0) (by rw [Hl.out]; omega)
        exact ⟨b, off, e⟩
      obtain ⟨bt, ot, rfl⟩ := hlast
      have hT : ∀ W, Below w.heap.size w W → ∀ i, i ≤ n → W.cell? ⟨bt, ot + i, none⟩ = some (.int .i64 (tg T i)) := fun W hb i hi => by
        obtain ⟨b, off, e, c⟩ := tg_at (hv.ext hb) (i := i) (by rw [Hl.out]; omega)
        cases e
        exact c
      have HT := Lib.hid hT
      clear hT
      have hn0 : (0 : Int) ≤ (n : Int) := by omega
      have hn1 : (n : Int) < ((n + 1 : Nat) : Int) := by omega
      go_enter Try.func59, Try.ntmps59
      go_wp2_with fail
      change Blk (w.alloc (.cells #[.slice A n cap, .int .i64 r.keep] 87)) w.heap.size 87 [.slice A n cap, .int .i64 r.keep] at hB
      refine HB.out.mono ?_; rintro e w1 ⟨rfl, hb1⟩
      have hb2 := ext_trans hb0 hb1
      have hB2 := hB.ext hb1
      have c0 := HT.out w1 hb2 n (Nat.le_refl n)
      clear hb0 hb1 hB HB
      by_cases hz : tg T n = 0
      · rw [hz] at c0
        have Hz := Lib.hid hz
        clear hz
        go_wp2
        go_loopw [6] (fun x wr => ∃ t : Nat, x = .int .i64 t ∧ t ≤ n ∧ Hid (∀ t', t' < t → ((r.day t').need = 0 → tg T t' ≤ tg T (t' + 1)) ∧ ((r.day t').opn = true → ∀ s, t' < s → s ≤ n → (s : Int) ≤ t' + r.keep → tg T t' ≤ r.price t' s + tg T s)) ∧ Below w.heap.size w wr ∧ Blk wr w.heap.size 87 [.slice A n cap, .int .i64 r.keep]) (fun x _ => n - (intOf x).toNat)
        case atStart => exact ⟨0, rfl, by omega, Lib.hid (fun t' h => by omega), hb2, hB2⟩
        case round =>
          clear hb2 hB2 c0
          obtain ⟨t, rfl, ht, Ht, hb, hB⟩ := hrel
          have x0 : wr.cell? ⟨w.heap.size, 0, none⟩ = _ := hB.cell rfl
          by_cases hlt : t < n
          · have hlt' : (t : Int) < (n : Int) := by omega
            have ht0 : (0 : Int) ≤ (t : Int) := by omega
            obtain ⟨b, off, rfl, -, c0, c1, c2, c3⟩ := (hd.ext hb).day (k := t) (by rw [Hn.out]; exact hlt)
            have hbx := Blk.new wr 95 (Mkt.enc (r.day t))
            have hb2 := ext_trans hb (ext_alloc wr (.cells #[.int .i64 (r.day t).need, .int .i64 (r.day t).price, .int .i64 (r.day t).trip, .bool (r.day t).opn] 95))
            have hB2 := hB.ext (ext_alloc wr (.cells #[.int .i64 (r.day t).need, .int .i64 (r.day t).price, .int .i64 (r.day t).trip, .bool (r.day t).opn] 95))
            go_upto_region 8 with fail
            change Blk (wr.alloc (.cells #[.int .i64 (r.day t).need, .int .i64 (r.day t).price, .int .i64 (r.day t).trip, .bool (r.day t).opn] 95)) wr.heap.size 95 [.int .i64 (r.day t).need, .int .i64 (r.day t).price, .int .i64 (r.day t).trip, .bool (r.day t).opn] at hbx
            clear c0 c1 c2 c3 x0 hb hB
            generalize wr.alloc (.cells #[.int .i64 (r.day t).need, .int .i64 (r.day t).price, .int .i64 (r.day t).trip, .bool (r.day t).opn] 95) = W1 at *
            have hday := Rd.day_ok hok (i := t) (by rw [Hn.out]; exact hlt)
            have Hday := Lib.hid hday
            have hr1 : (r.day t).need = 0 → ¬ tg T t ≤ tg T (t + 1) → res = false := fun h1 h2 => Bad.out (fun h => h2 (h.stp t (by rw [Hn.out]; exact hlt) h1))
            have hr2 : (r.day t).opn = true → ∀ s, t < s → s ≤ n → (s : Int) ≤ t + r.keep → ¬ tg T t ≤ r.price t s + tg T s → res = false := fun h1 s h2 h3 h4 h5 => Bad.out (fun h => h5 (h.buy t (by rw [Hn.out]; exact hlt) h1 s h2 (by rw [Hn.out]; exact h3) h4))
            have hg : ((r.day t).need = 0 → tg T t ≤ tg T (t + 1)) → ((r.day t).opn = true → ∀ s, t < s → s ≤ n → (s : Int) ≤ t + r.keep → tg T t ≤ r.price t s + tg T s) → ∀ t', t' < t + 1 → ((r.day t').need = 0 → tg T t' ≤ tg T (t' + 1)) ∧ ((r.day t').opn = true → ∀ s, t' < s → s ≤ n → (s : Int) ≤ t' + r.keep → tg T t' ≤ r.price t' s + tg T s) := fun g1 g2 t' ht' => by
              by_cases e : t' = t
              · subst e; exact ⟨g1, g2⟩
              · exact Ht.out t' (by omega)
            have Hr1 := Lib.hid hr1
            have Hr2 := Lib.hid hr2
            have Hg := Lib.hid hg
            clear hday hr1 hr2 hg Ht
            go_cut [54] (fun z W => z = .bool (decide ((r.day t).need = 0 ∧ ¬ tg T t ≤ tg T (t + 1))) ∧ Below w.heap.size w W ∧ Blk W w.heap.size 87 [.slice (some ⟨b, off, none⟩) n cap, .int .i64 r.keep] ∧ Blk W wr.heap.size 95 [.int .i64 (r.day t).need, .int .i64 (r.day t).price, .int .i64 (r.day t).trip, .bool (r.day t).opn])
            case first =>
              refine Dr.wp_region_plan 15 [] (.q [0, 1, 2, 3, 4, 5, 6, 7, 8, 9, 10, 11, 12, 13, 14] .done) (by kernel_rfl) (by kernel_rfl) ?_
              have hb3 := hb2.drew
              have hB3 := hB2.ext (ext_drew W1)
              have hx3 := hbx.ext (ext_drew W1)
              clear hb2 hB2 hbx
              generalize World.drew _ = W at *
              have d0 := HT.out W hb3 t (by omega)
              have d1 := HT.out W hb3 (t + 1) (by omega)
              have q0 := Dr.cell0 d0
              have q1 := Dr.cell0 d1
              have q2 := Dr.cell0 (hx3.cell (i := 0) rfl)
              have htn : (t : Int) < ((n + 1 : Nat) : Int) := by omega
              have htn1 : (t : Int) + 1 < ((n + 1 : Nat) : Int) := by omega
              have hnt : ¬ n + 1 ≤ t := by omega
              have hnt1 : ¬ n + 1 ≤ t + 1 := by omega
              by_cases hnd : (r.day t).need = 0
              · have hvb : decide ((r.day t).need = 0 ∧ ¬ tg T t ≤ tg T (t + 1)) = decide (tg T (t + 1) < tg T t) := by
                  rw [hnd]
                  by_cases h : tg T (t + 1) < tg T t
                  · rw [decide_eq_true h, decide_eq_true ⟨rfl, by omega⟩]
                  · rw [decide_eq_false h, decide_eq_false (fun h' => h (by omega))]
                have Hvb := Lib.hid hvb
                rw [hnd] at q2
                clear hvb hnd d0 d1
                generalize tg T t = ta at *
                generalize tg T (t + 1) = tb at *
                refine Dr.plan_q (l := [_, _, _, _, _, _, _, _, _, _, _, _, _, _, _]) rfl (fun K hK => ?_)
                iterate 15 (go_big_quiet_step (fail))
                refine wpQuiet_nil (hK _ ?_); clear hK K
                refine Dr.plan_end rfl ?_
                go_wp2
                go_meet
                case rel => exact ⟨bool_congr Hvb.out.symm, hb3, hB3, hx3⟩
              · have hvb : decide ((r.day t).need = 0 ∧ ¬ tg T t ≤ tg T (t + 1)) = false := decide_eq_false (fun h => hnd h.1)
                have Hvb := Lib.hid hvb
                clear hvb d0 d1 q0 q1
                generalize (r.day t).need = nd at *
                have hnd' : (nd == 0) = false := by simpa using hnd
                refine Dr.plan_q (l := [_, _, _, _, _, _, _, _, _, _, _, _, _, _, _]) rfl (fun K hK => ?_)
                iterate 15 (go_big_quiet_step (fail))
                refine wpQuiet_nil (hK _ ?_); clear hK K
                refine Dr.plan_end rfl ?_
                go_wp2
                go_meet
                case rel => exact ⟨bool_congr Hvb.out.symm, hb3, hB3, hx3⟩
            case rest =>
              clear hb2 hB2 hbx
              obtain ⟨rfl, hb3, hB3, hx3⟩ := hcut
              by_cases hst : (r.day t).need = 0 ∧ ¬ tg T t ≤ tg T (t + 1)
              · have Hr := Lib.hid (Hr1.out hst.1 hst.2)
                rw [decide_eq_true hst]
                clear hst
                go_wp2
                go_ret
                exact ⟨ret_congr (bool_congr Hr.out.symm), hb3⟩
              · have hg1 : (r.day t).need = 0 → tg T t ≤ tg T (t + 1) := fun h => by
                  rcases Int.lt_or_le (tg T (t + 1)) (tg T t) with h2 | h2
                  · exact absurd ⟨h, by omega⟩ hst
                  · exact h2
                have Hg1 := Lib.hid (Hg.out hg1)
                rw [decide_eq_false hst]
                have hps := price_self r t
                have Hps := Lib.hid hps
                clear hst hg1 hps
                have y0 : wc.cell? ⟨wr.heap.size, 2, none⟩ = _ := hx3.cell rfl
                go_wp2
                go_loopw [8, 9] (fun c x wz => ∃ s : Nat, x = .int .i64 s ∧ t + 1 ≤ s ∧ s ≤ n + 1 ∧ c = .int .i64 (r.price t (s - 1)) ∧ Hid (∀ s', t < s' → s' < s → tg T t ≤ r.price t s' + tg T s') ∧ Below w.heap.size w wz ∧ Blk wz w.heap.size 87 [.slice (some ⟨b, off, none⟩) n cap, .int .i64 r.keep] ∧ Blk wz wr.heap.size 95 [.int .i64 (r.day t).need, .int .i64 (r.day t).price, .int .i64 (r.day t).trip, .bool (r.day t).opn]) (fun _ x _ => n + 1 - (intOf x).toNat)
                case atStart => exact ⟨t + 1, by go_num, by omega, by omega, int_congr (by rw [Nat.add_sub_cancel]; exact Hps.out.symm), Lib.hid (fun s' h1 h2 => by omega), hb3, hB3, hx3⟩
                case round =>
                  clear hb3 hB3 hx3 y0
                  obtain ⟨s, rfl, hs1, hs2, rfl, Hs, hb4, hB4, hx4⟩ := hrel
                  have x1 := hB4.cell (i := 1) rfl
                  have y3 := hx4.cell (i := 3) rfl
                  by_cases h1 : (s : Int) ≤ (t : Int) + r.keep
                  · by_cases h2 : s ≤ n
                    · have h2' : (s : Int) ≤ (n : Int) := by omega
                      cases ho : (r.day t).opn
                      · have Hgg := Lib.hid (Hg1.out (fun h => by rw [ho] at h; cases h))
                        rw [ho] at y3
                        clear ho
                        go_wp2
                        go_roundw
                        case rel => exact ⟨t + 1, by go_num, by omega, Hgg, hb4, hB4⟩
                        case measure => simp [intOf]; omega
                      · have Hrs := Lib.hid (Hr2.out ho s (by omega) h2 h1)
                        rw [ho] at y3
                        have Ho := Lib.hid ho
                        clear ho
                        obtain ⟨u, rfl⟩ : ∃ u, s = u + 1 := ⟨s - 1, by omega⟩
                        have hun : u < n := by omega
                        have hpu := price_step (r := r) (t := t) (s := u) (by omega) (by rw [Hn.out]; exact hun)
                        have hp1 := Rd.price_nonneg hok (i := t) (by rw [Hn.out]; exact hlt) u
                        have hdu := (Rd.day_ok hok (i := u) (by rw [Hn.out]; exact hun)).1
                        have hdp := Hday.out.2.1
                        have hmul := mul_bd hdp.1 hdp.2 hdu.1 hdu.2
                        have hb1 := Htg.out t
                        have hb2 := Htg.out (u + 1)
                        have Hgo := Lib.hid (fun (h : tg T t ≤ r.price t (u + 1) + tg T (u + 1)) s' (h1 : t < s') (h2 : s' < u + 1 + 1) => (show tg T t ≤ r.price t s' + tg T s' by
                          by_cases e : s' = u + 1
                          · subst e; exact h
                          · exact Hs.out s' h1 (by omega)))
                        rw [Nat.add_sub_cancel]
                        have x0 := hB4.cell (i := 0) rfl
                        have y1 := hx4.cell (i := 1) rfl
                        obtain ⟨b2, o2, eA, -, c0, -, -, -⟩ := (hd.ext hb4).day (k := u) (by rw [Hn.out]; exact hun)
                        cases eA
                        have hsu : ((u + 1 : Nat) : Int) - 1 = (u : Int) := by omega
                        have hun' : (u : Int) < (n : Int) := by omega
                        have hu0 : (0 : Int) ≤ (u : Int) := by omega
                        have Hpu := Lib.hid hpu
                        have htu := HT.out _ hb4 (u + 1) (by omega)
                        have htt := HT.out _ hb4 t (by omega)
                        clear hpu
                        go_upto_region 14 with fail
                        have hnu := Hday.out
                        generalize hprr : (r.day t).price = pr at *
                        have Hprr := Lib.hid hprr
                        clear hprr
                        generalize (r.day u).need = nd at *
                        generalize hpv : r.price t u = pv at *
                        generalize hpw : r.price t (u + 1) = pw at *
                        have hpw2 := Hpu.out
                        have Hpv := Lib.hid hpv
                        have Hpw := Lib.hid hpw
                        clear hpv hpw Hpu
                        refine Dr.wp_region_plan 13 [] (.q [0, 1, 2, 3, 4, 5, 6, 7, 8, 9, 10, 11, 12] .done) (by kernel_rfl) (by kernel_rfl) ?_
                        have hb5 := hb4.drew
                        have hB5 := hB4.ext (ext_drew _)
                        have hx5 := hx4.ext (ext_drew _)
                        have q0 := Dr.cell0 (hB5.cell (i := 0) rfl)
                        have q1 := Dr.cell0 (hx5.cell (i := 1) rfl)
                        have q2 := Dr.cell0 (cell_ext c0 (ext_drew _))
                        clear hb4 hB4 hx4 x0 x1 y1 y3 c0 htu htt
                        generalize World.drew _ = W5 at *
                        refine Dr.plan_q (l := [_, _, _, _, _, _, _, _, _, _, _, _, _]) rfl (fun K hK => ?_)
                        iterate 13 (go_big_quiet_step (fail))
                        refine wpQuiet_nil (hK _ ?_); clear hK K
                        refine Dr.plan_end rfl ?_
                        clear q0 q1 q2
                        go_upto_region 15 with fail
                        have htn : (t : Int) < ((n + 1 : Nat) : Int) := by omega
                        have hun1 : ((u + 1 : Nat) : Int) < ((n + 1 : Nat) : Int) := by omega
                        have hnt : ¬ n + 1 ≤ t := by omega
                        have hnt1 : ¬ n + 1 ≤ u + 1 := by omega
                        refine Dr.wp_region_plan 11 [] (.q [0, 1, 2, 3, 4, 5, 6, 7, 8, 9, 10] .done) (by kernel_rfl) (by kernel_rfl) ?_
                        have hb6 := hb5.drew
                        have hB6 := hB5.ext (ext_drew _)
                        have hx6 := hx5.ext (ext_drew _)
                        clear hb5 hB5 hx5
                        generalize World.drew _ = W6 at *
                        have q0 := Dr.cell0 (HT.out W6 hb6 t (by omega))
                        have q1 := Dr.cell0 (HT.out W6 hb6 (u + 1) (by omega))
                        generalize hta : tg T t = ta at *
                        generalize tg T (u + 1) = tb at *
                        have Hta := Lib.hid hta
                        clear hta
                        refine Dr.plan_q (l := [_, _, _, _, _, _, _, _, _, _, _]) rfl (fun K hK => ?_)
                        iterate 11 (go_big_quiet_step (fail))
                        refine wpQuiet_nil (hK _ ?_); clear hK K
                        refine Dr.plan_end rfl ?_
                        clear q0 q1
                        by_cases hle : ta ≤ pv + pr * nd + tb
                        · have hn1 : ¬ pv + pr * nd + tb < ta := by omega
                          have Hg2 := Lib.hid (Hgo.out (by rw [hpw2]; exact hle))
                          go_wp2
                          go_roundw
                          case rel => exact ⟨u + 1 + 1, by go_num, by omega, by omega, int_congr (by rw [Nat.add_sub_cancel, Hpw.out]; exact hpw2.symm), by rw [Hta.out]; exact Hg2, hb6, hB6, by have h := hx6; rw [Ho.out] at h; rw [Hprr.out]; exact h⟩
                          case measure => simp [intOf]; omega
                        · have hn1 : pv + pr * nd + tb < ta := by omega
                          have Hr := Lib.hid (Hrs.out (by rw [hpw2]; first | exact hn1 | exact hle))
                          clear hle
                          go_wp2
                          go_ret
                          exact ⟨ret_congr (bool_congr Hr.out.symm), hb6⟩
                    · have h2' : ¬ (s : Int) ≤ (n : Int) := by omega
                      have Hgg := Lib.hid (Hg1.out (fun _ s' g1 g2 _ => Hs.out s' g1 (by omega)))
                      go_wp2
                      go_roundw
                      case rel => exact ⟨t + 1, by go_num, by omega, Hgg, hb4, hB4⟩
                      case measure => simp [intOf]; omega
                  · have Hgg := Lib.hid (Hg1.out (fun _ s' g1 g2 g3 => Hs.out s' g1 (by omega)))
                    go_wp2
                    go_roundw
                    case rel => exact ⟨t + 1, by go_num, by omega, Hgg, hb4, hB4⟩
                    case measure => simp [intOf]; omega
          · obtain rfl : t = n := by omega
            have Hr := Lib.hid (Hres.out.2 ⟨by rw [Hl.out, Hn.out], Hbt.out, by rw [Hn.out]; exact Hz.out, fun t' h => (Ht.out t' (by rw [Hn.out] at h; exact h)).1, fun t' h ho s h1 h2 h3 => (Ht.out t' (by rw [Hn.out] at h; exact h)).2 ho s h1 (by rw [Hn.out] at h2; exact h2) h3⟩)
            go_wp2
            go_ret
            exact ⟨ret_congr (bool_congr Hr.out.symm), hb⟩
      · have Hr := Lib.hid (Bad.out (fun h => hz (by have := h.fin; rw [Hn.out] at this; exact this)))
        go_wp2
        go_ret
        exact ⟨ret_congr (bool_congr Hr.out.symm), hb2⟩
  · have hmn' : ¬ (m : Int) = (n : Int) + 1 := by omega
    have Hr := Lib.hid (Bad.out (fun h => hmn (by have := h.len; rw [Hn.out, Hl.out] at this; exact this)))
    go_enter Try.func59, Try.ntmps59
    go_wp2
    go_ret
    exact ⟨ret_congr (bool_congr Hr.out.symm), hb0⟩
end Go.Proofs.Ytopfhinnamhoiaa

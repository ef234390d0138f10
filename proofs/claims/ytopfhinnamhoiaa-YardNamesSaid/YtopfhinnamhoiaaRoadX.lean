/- Walk: right (a table of the program). -/
import Derived.Deep.DeepCutAuto
import Derived.Test.YtopfhinnamhoiaaRoadV
namespace Go.Proofs.Ytopfhinnamhoiaa
open Go.RowKit Go.Bs Go.Yd Go.Pl Go.Sort

theorem tab_ok (l : List Int) (w : World) : PredB Try.prog 119 #[] (Value.int .i64) (fun x => decide (0 ≤ x ∧ x ≤ 1000000000)) w l := by
  intro W x hx hb
  show Calls Try.prog 119 #[.int .i64 x] W fun e w' => e = .returned (.bool (decide (0 ≤ x ∧ x ≤ 1000000000))) ∧ Below W.heap.size W w'
  have Hc := Lib.hid (within_any x 0 1000000000 W)
  generalize decide (0 ≤ x ∧ x ≤ 1000000000) = q at *
  go_enter Try.func119, Try.ntmps119
  go_wp2_with fail
  refine Hc.out.mono ?_; rintro e w1 ⟨rfl, rfl⟩
  go_wp2
  go_ret
  exact ⟨rfl, Below.refl _ _⟩

set_option maxRecDepth 100000 in
set_option maxHeartbeats 4000000 in
theorem right_any (r : Rd) (hok : r.ok) (A : Option Addr) (n cap : Nat) (T : List Int) (V : Option Addr) (m cm : Nat) (w : World) (res : Bool) (hres : res = true ↔ TabOk r T) (hn : r.days.length = n) (hcap : n ≤ cap) (hm : T.length = m) (h40 : m ≤ 40) (hd : RdAt w A r) (hv : Cells w V 1 encI T) :
    Calls Try.prog 93 #[.agg #[.slice A n cap, .int .i64 r.keep], .slice V m cm] w fun e w' => e = .returned (.bool res) ∧ Below w.heap.size w w' := by
  have hb0 := ext_alloc w (.cells #[.slice A n cap, .int .i64 r.keep] 92)
  have hB := Blk.new w 92 [.slice A n cap, .int .i64 r.keep]
  have hlen := hok.1
  rw [hn] at hlen
  have hkeep := hok.2.1
  have hbad : ¬ TabOk r T → res = false := fun h => by
    cases hr : res
    · rfl
    · exact absurd (hres.1 hr) h
  have Bad := Lib.hid hbad
  have Hres := Lib.hid hres
  have Hn := Lib.hid hn
  have Hl := Lib.hid hm
  clear hbad hres
  by_cases hmn : m = n + 1
  · have hmn' : (m : Int) = (n : Int) + 1 := by omega
    have HB := Lib.hid (all_int 119 #[] (fun x => decide (0 ≤ x ∧ x ≤ 1000000000)) V m cm T _ (enters_of Try.func119 (by kernel_rfl) rfl) hm (by omega) (hv.ext hb0) (tab_ok T _))
    have Hmn := Lib.hid hmn
    subst hmn
    change Hid (Calls Try.prog 72 _ _ fun e w' => e = .returned (.bool (btwB 1000000000 T)) ∧ _) at HB
    cases hbt : btwB 1000000000 T
    · have Hr := Lib.hid (Bad.out (fun h => by have := h.rng; rw [hbt] at this; cases this))
      rw [hbt] at HB
      clear hbt
      go_enter Try.func93, Try.ntmps93
      go_wp2_with fail
      refine HB.out.mono ?_; rintro e w1 ⟨rfl, hb1⟩
      go_wp2
      go_ret
      exact ⟨ret_congr (bool_congr Hr.out.symm), ext_trans hb0 hb1⟩
    · have Hbt := Lib.hid hbt
      have Htg := Lib.hid (fun i => tg_bd hbt i)
      rw [hbt] at HB
      clear hbt
      have hlast : ∃ b off, V = some ⟨b, off, none⟩ := by
        obtain ⟨b, off, e, -⟩ := tg_at hv (i := 0) (by rw [Hl.out]; omega)
        exact ⟨b, off, e⟩
      obtain ⟨bt, ot, rfl⟩ := hlast
      have hT : ∀ W, Below w.heap.size w W → ∀ i, i ≤ n → W.cell? ⟨bt, ot + i, none⟩ = some (.int .i64 (tg T i)) := fun W hb i hi => by
        obtain ⟨b, off, e, c⟩ := tg_at (hv.ext hb) (i := i) (by rw [Hl.out]; omega)
        cases e
        exact c
      have HT := Lib.hid hT
      clear hT
      have hn0 : (0 : Int) ≤ (n : Int) := by omega
      have hn1 : (n : Int) < ((n + 1 : Nat) : Int) := by omega
      go_enter Try.func93, Try.ntmps93
      go_wp2_with fail
      change Blk (w.alloc (.cells #[.slice A n cap, .int .i64 r.keep] 92)) w.heap.size 92 [.slice A n cap, .int .i64 r.keep] at hB
      refine HB.out.mono ?_; rintro e w1 ⟨rfl, hb1⟩
      have hb2 := ext_trans hb0 hb1
      have hB2 := hB.ext hb1
      have c0 := HT.out w1 hb2 n (Nat.le_refl n)
      clear hb0 hb1 hB HB
      by_cases hz : tg T n = 0
      · rw [hz] at c0
        have Hz := Lib.hid hz
        have x0' : w1.cell? ⟨w.heap.size, 0, none⟩ = _ := hB2.cell rfl
        clear hz
        go_wp2
        go_loopw [32] (fun x wr => ∃ t : Nat, x = .int .i64 t ∧ t ≤ n ∧ Hid (∀ t', t' < t → ((r.day t').need = 0 → tg T t' ≤ tg T (t' + 1)) ∧ ((r.day t').opn = true → ∀ s, t' < s → s ≤ n → (s : Int) ≤ t' + r.keep → tg T t' ≤ r.price t' s + tg T s)) ∧ Below w.heap.size w wr ∧ Blk wr w.heap.size 92 [.slice A n cap, .int .i64 r.keep]) (fun x _ => n - (intOf x).toNat)
        case atStart => exact ⟨0, rfl, by omega, Lib.hid (fun t' h => by omega), hb2, hB2⟩
        case round =>
          clear hb2 hB2 c0
          obtain ⟨t, rfl, ht, Ht, hb, hB⟩ := hrel
          have x0 : wr.cell? ⟨w.heap.size, 0, none⟩ = _ := hB.cell rfl
          by_cases hlt : t < n
          · have hlt' : (t : Int) < (n : Int) := by omega
            have ht0 : (0 : Int) ≤ (t : Int) := by omega
            obtain ⟨b, off, rfl, -, c0, c1, c2, c3⟩ := (hd.ext hb).day (k := t) (by rw [Hn.out]; exact hlt)
            have hbx := Blk.new wr 123 (Mkt.enc (r.day t))
            have hb2 := ext_trans hb (ext_alloc wr (.cells #[.int .i64 (r.day t).need, .int .i64 (r.day t).price, .int .i64 (r.day t).trip, .bool (r.day t).opn] 123))
            have hB2 := hB.ext (ext_alloc wr (.cells #[.int .i64 (r.day t).need, .int .i64 (r.day t).price, .int .i64 (r.day t).trip, .bool (r.day t).opn] 123))
            go_upto_region 7 with fail
            change Blk (wr.alloc (.cells #[.int .i64 (r.day t).need, .int .i64 (r.day t).price, .int .i64 (r.day t).trip, .bool (r.day t).opn] 123)) wr.heap.size 123 [.int .i64 (r.day t).need, .int .i64 (r.day t).price, .int .i64 (r.day t).trip, .bool (r.day t).opn] at hbx
            clear c0 c1 c2 c3 x0 hb hB
            generalize wr.alloc (.cells #[.int .i64 (r.day t).need, .int .i64 (r.day t).price, .int .i64 (r.day t).trip, .bool (r.day t).opn] 123) = W1 at *
            have hday := Rd.day_ok hok (i := t) (by rw [Hn.out]; exact hlt)
            have Hday := Lib.hid hday
            have hr1 : (r.day t).need = 0 → ¬ tg T t ≤ tg T (t + 1) → res = false := fun h1 h2 => Bad.out (fun h => h2 (h.stp t (by rw [Hn.out]; exact hlt) h1))
            have hr2 : (r.day t).opn = true → ∀ s, t < s → s ≤ n → (s : Int) ≤ t + r.keep → ¬ tg T t ≤ r.price t s + tg T s → res = false := fun h1 s h2 h3 h4 h5 => Bad.out (fun h => h5 (h.buy t (by rw [Hn.out]; exact hlt) h1 s h2 (by rw [Hn.out]; exact h3) h4))
            have hg : ((r.day t).need = 0 → tg T t ≤ tg T (t + 1)) → ((r.day t).opn = true → ∀ s, t < s → s ≤ n → (s : Int) ≤ t + r.keep → tg T t ≤ r.price t s + tg T s) → ∀ t', t' < t + 1 → ((r.day t').need = 0 → tg T t' ≤ tg T (t' + 1)) ∧ ((r.day t').opn = true → ∀ s, t' < s → s ≤ n → (s : Int) ≤ t' + r.keep → tg T t' ≤ r.price t' s + tg T s) := fun g1 g2 t' ht' => by
              by_cases e : t' = t
              · subst e; exact ⟨g1, g2⟩
              · exact Ht.out t' (by omega)
            have Hr1 := Lib.hid hr1
            have Hr2 := Lib.hid hr2
            have Hg := Lib.hid hg
            clear hday hr1 hr2 hg Ht
            go_cut [51] (fun z W => z = .bool (decide ((r.day t).need = 0 ∧ ¬ tg T t ≤ tg T (t + 1))) ∧ Below w.heap.size w W ∧ Blk W w.heap.size 92 [.slice (some ⟨b, off, none⟩) n cap, .int .i64 r.keep] ∧ Blk W wr.heap.size 123 [.int .i64 (r.day t).need, .int .i64 (r.day t).price, .int .i64 (r.day t).trip, .bool (r.day t).opn])
            case first =>
              refine Dr.wp_region_plan 15 [] (.q [0, 1, 2, 3, 4, 5, 6, 7, 8, 9, 10, 11, 12, 13, 14] .done) (by kernel_rfl) (by kernel_rfl) ?_
              have hb3 := hb2.drew
              have hB3 := hB2.ext (ext_drew W1)
              have hx3 := hbx.ext (ext_drew W1)
              clear hb2 hB2 hbx
              generalize World.drew _ = W at *
              have d0 := HT.out W hb3 t (by omega)
              have d1 := HT.out W hb3 (t + 1) (by omega)
              have q0 := Dr.cell0 d0
              have q1 := Dr.cell0 d1
              have q2 := Dr.cell0 (hx3.cell (i := 0) rfl)
              have htn : (t : Int) < ((n + 1 : Nat) : Int) := by omega
              have htn1 : (t : Int) + 1 < ((n + 1 : Nat) : Int) := by omega
              have hnt : ¬ n + 1 ≤ t := by omega
              have hnt1 : ¬ n + 1 ≤ t + 1 := by omega
              by_cases hnd : (r.day t).need = 0
              · have hvb : decide ((r.day t).need = 0 ∧ ¬ tg T t ≤ tg T (t + 1)) = decide (tg T (t + 1) < tg T t) := by
                  rw [hnd]
                  by_cases h : tg T (t + 1) < tg T t
                  · rw [decide_eq_true h, decide_eq_true ⟨rfl, by omega⟩]
                  · rw [decide_eq_false h, decide_eq_false (fun h' => h (by omega))]
                have Hvb := Lib.hid hvb
                rw [hnd] at q2
                clear hvb hnd d0 d1
                generalize tg T t = ta at *
                generalize tg T (t + 1) = tb at *
                refine Dr.plan_q (l := [_, _, _, _, _, _, _, _, _, _, _, _, _, _, _]) rfl (fun K hK => ?_)
                iterate 15 (go_big_quiet_step (fail))
                refine wpQuiet_nil (hK _ ?_); clear hK K
                refine Dr.plan_end rfl ?_
                go_wp2
                go_meet
                case rel => exact ⟨bool_congr Hvb.out.symm, hb3, hB3, hx3⟩
              · have hvb : decide ((r.day t).need = 0 ∧ ¬ tg T t ≤ tg T (t + 1)) = false := decide_eq_false (fun h => hnd h.1)
                have Hvb := Lib.hid hvb
                clear hvb d0 d1 q0 q1
                generalize (r.day t).need = nd at *
                have hnd' : (nd == 0) = false := by simpa using hnd
                refine Dr.plan_q (l := [_, _, _, _, _, _, _, _, _, _, _, _, _, _, _]) rfl (fun K hK => ?_)
                iterate 15 (go_big_quiet_step (fail))
                refine wpQuiet_nil (hK _ ?_); clear hK K
                refine Dr.plan_end rfl ?_
                go_wp2
                go_meet
                case rel => exact ⟨bool_congr Hvb.out.symm, hb3, hB3, hx3⟩
            case rest =>
              clear hb2 hB2 hbx
              obtain ⟨rfl, hb3, hB3, hx3⟩ := hcut
              by_cases hst : (r.day t).need = 0 ∧ ¬ tg T t ≤ tg T (t + 1)
              · have Hr := Lib.hid (Hr1.out hst.1 hst.2)
                rw [decide_eq_true hst]
                clear hst
                go_wp2
                go_ret
                exact ⟨ret_congr (bool_congr Hr.out.symm), hb3⟩
              · have hg1 : (r.day t).need = 0 → tg T t ≤ tg T (t + 1) := fun h => by
                  rcases Int.lt_or_le (tg T (t + 1)) (tg T t) with h2 | h2
                  · exact absurd ⟨h, by omega⟩ hst
                  · exact h2
                have Hg1 := Lib.hid (Hg.out hg1)
                rw [decide_eq_false hst]
                have hps := price_self r t
                have Hps := Lib.hid hps
                clear hst hg1 hps
                have y0 : wc.cell? ⟨wr.heap.size, 3, none⟩ = _ := hx3.cell rfl
                go_wp2
                go_loopw [8] (fun x wz => ∃ s : Nat, x = .int .i64 s ∧ t + 1 ≤ s ∧ s ≤ n + 1 ∧ Hid (∀ s', t < s' → s' < s → tg T t ≤ r.price t s' + tg T s') ∧ Below w.heap.size w wz ∧ Blk wz w.heap.size 92 [.slice (some ⟨b, off, none⟩) n cap, .int .i64 r.keep] ∧ Blk wz wr.heap.size 123 [.int .i64 (r.day t).need, .int .i64 (r.day t).price, .int .i64 (r.day t).trip, .bool (r.day t).opn]) (fun x _ => n + 1 - (intOf x).toNat)
                case atStart => exact ⟨t + 1, by go_num, by omega, by omega, Lib.hid (fun s' h1 h2 => by omega), hb3, hB3, hx3⟩
                case round =>
                  clear hb3 hB3 hx3 y0
                  obtain ⟨s, rfl, hs1, hs2, Hs, hb4, hB4, hx4⟩ := hrel
                  have x1 := hB4.cell (i := 1) rfl
                  have y3 := hx4.cell (i := 3) rfl
                  cases ho : (r.day t).opn
                  · have Hgg := Lib.hid (Hg1.out (fun h => by rw [ho] at h; cases h))
                    rw [ho] at y3
                    clear ho
                    go_wp2
                    go_roundw
                    case rel => exact ⟨t + 1, by go_num, by omega, Hgg, hb4, hB4⟩
                    case measure => simp [intOf]; omega
                  · have Ho := Lib.hid ho
                    rw [ho] at y3
                    by_cases h12 : (s : Int) ≤ min (n : Int) ((t : Int) + r.keep)
                    · have h1 : (s : Int) ≤ (t : Int) + r.keep := by omega
                      have h2 : s ≤ n := by omega
                      have Hrs := Lib.hid (Hr2.out ho s (by omega) h2 h1)
                      clear ho
                      have hts : t < s := by omega
                      have hp1 := Rd.price_nonneg hok (i := t) (by rw [Hn.out]; exact hlt) s
                      have hb1 := Htg.out t
                      have hb2 := Htg.out s
                      have Hgo := Lib.hid (fun (h : tg T t ≤ r.price t s + tg T s) s' (h1 : t < s') (h2 : s' < s + 1) => (show tg T t ≤ r.price t s' + tg T s' by
                        by_cases e : s' = s
                        · subst e; exact h
                        · exact Hs.out s' h1 (by omega)))
                      by_cases hmin : (n : Int) ≤ (t : Int) + r.keep
                      all_goals
                        clear h12
                        go_upto_region 12 with fail
                        have htn : (t : Int) < ((n + 1 : Nat) : Int) := by omega
                        have hun1 : (s : Int) < ((n + 1 : Nat) : Int) := by omega
                        have hnt : ¬ n + 1 ≤ t := by omega
                        have hnt1 : ¬ n + 1 ≤ s := by omega
                        have hs0 : (0 : Int) ≤ (s : Int) := by omega
                        refine Dr.wp_region_plan 14 [] (.q [0, 1, 2, 3, 4, 5, 6, 8, 9, 10, 11] (.e1 7 (.q [12, 13] .done))) (by kernel_rfl) (by kernel_rfl) ?_
                        have hb6 := hb4.drew
                        have hB6 := hB4.ext (ext_drew _)
                        have hx6 := hx4.ext (ext_drew _)
                        clear hb4 hB4 hx4 x1 y3
                        generalize World.drew _ = W6 at *
                        have q0 := Dr.cell0 (HT.out W6 hb6 t (by omega))
                        have q1 := Dr.cell0 (HT.out W6 hb6 s h2)
                        have q2 := Dr.cell0 (hB6.cell (i := 0) rfl)
                        have q3 := Dr.cell0 (hB6.cell (i := 1) rfl)
                        refine Dr.plan_q (l := [_, _, _, _, _, _, _, _, _, _, _]) rfl (fun K hK => ?_)
                        iterate 11 (go_big_quiet_step (fail))
                        refine wpQuiet_nil (hK _ ?_); clear hK K
                        refine Dr.plan_e rfl (by rfl) (fun K hK => ?_)
                        go_wp2_with fail
                        refine (price_any r (some ⟨b, off, none⟩) n cap t s W6 hok Hn.out hcap hts h2 (hd.ext hb6)).mono ?_; rintro e w7 ⟨rfl, hb7⟩
                        refine hK _ _ (.of hb7) ?_; clear hK K
                        have hb8 := ext_trans hb6 hb7
                        have hB8 := hB6.ext hb7
                        have hx8 := hx6.ext hb7
                        clear hb6 hb7 hB6 hx6 q0 q1 q2 q3
                        generalize hta : tg T t = ta at *
                        generalize tg T s = tb at *
                        generalize r.price t s = pv at *
                        have Hta := Lib.hid hta
                        clear hta
                        refine Dr.plan_q (l := [_, _]) rfl (fun K hK => ?_)
                        iterate 2 (go_big_quiet_step (fail))
                        refine wpQuiet_nil (hK _ ?_); clear hK K
                        refine Dr.plan_end rfl ?_
                        by_cases hle : ta ≤ pv + tb
                        · have hn1 : ¬ pv + tb < ta := by omega
                          have Hg2 := Lib.hid (Hgo.out hle)
                          go_wp2
                          go_roundw
                          case rel => exact ⟨s + 1, by go_num, by omega, by omega, by rw [Hta.out]; exact Hg2, hb8, hB8, by have h := hx8; rw [Ho.out] at h; exact h⟩
                          case measure => simp [intOf]; omega
                        · have hn1 : pv + tb < ta := by omega
                          have Hr := Lib.hid (Hrs.out (by first | exact hn1 | exact hle))
                          clear hle
                          go_wp2
                          go_ret
                          exact ⟨ret_congr (bool_congr Hr.out.symm), hb8⟩
                    · have Hgg := Lib.hid (Hg1.out (fun _ s' g1 g2 g3 => Hs.out s' g1 (by omega)))
                      clear ho
                      go_wp2
                      go_roundw
                      case rel => exact ⟨t + 1, by go_num, by omega, Hgg, hb4, hB4⟩
                      case measure => simp [intOf]; omega
          · obtain rfl : t = n := by omega
            have Hr := Lib.hid (Hres.out.2 ⟨by rw [Hl.out, Hn.out], Hbt.out, by rw [Hn.out]; exact Hz.out, fun t' h => (Ht.out t' (by rw [Hn.out] at h; exact h)).1, fun t' h ho s h1 h2 h3 => (Ht.out t' (by rw [Hn.out] at h; exact h)).2 ho s h1 (by rw [Hn.out] at h2; exact h2) h3⟩)
            go_wp2
            go_ret
            exact ⟨ret_congr (bool_congr Hr.out.symm), hb⟩
      · have Hr := Lib.hid (Bad.out (fun h => hz (by have := h.fin; rw [Hn.out] at this; exact this)))
        go_wp2
        go_ret
        exact ⟨ret_congr (bool_congr Hr.out.symm), hb2⟩
  · have hmn' : ¬ (m : Int) = (n : Int) + 1 := by omega
    have Hr := Lib.hid (Bad.out (fun h => hmn (by have := h.len; rw [Hn.out, Hl.out] at this; exact this)))
    go_enter Try.func93, Try.ntmps93
    go_wp2
    go_ret
    exact ⟨ret_congr (bool_congr Hr.out.symm), hb0⟩
end Go.Proofs.Ytopfhinnamhoiaa

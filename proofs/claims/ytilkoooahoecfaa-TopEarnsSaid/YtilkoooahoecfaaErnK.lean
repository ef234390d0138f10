/- Walks: route: day, gain, profit, Profit, Day. (Printed by mk_ernk.py.) -/
import Derived.Test.YtilkoooahoecfaaErnJ
namespace Go.Er
open Go.RowKit Go.Bs
/-- what n days from f on bring, less their rent -/
def gnE (x : TwE) (f : Int) : Nat → Int
  | 0 => 0
  | n + 1 => gnE x f n + (dayE x (f + n) - x.rent)
theorem gnE_eq (x : TwE) (f : Int) : ∀ n : Nat, gnE x f n = takeE x f n - n * x.rent
  | 0 => by simp [gnE, takeE]
  | n + 1 => by
    have h := gnE_eq x f n
    unfold gnE takeE
    rw [h]
    have h2 : ((n + 1 : Nat) : Int) * x.rent = n * x.rent + x.rent := by rw [Int.natCast_succ, Int.add_mul, Int.one_mul]
    rw [h2]
    omega
theorem gnE_bd {x : TwE} {days : Int} (h : TownOk x days) (f : Int) : ∀ n : Nat, -1000000 * (n : Int) ≤ gnE x f n ∧ gnE x f n ≤ 1000000 * n
  | 0 => by simp [gnE]
  | n + 1 => by
    have h1 := gnE_bd h f n
    have h2 := dayE_bd h (f + n)
    have h3 := h.rent
    unfold gnE
    omega
theorem gain_eq (t : TrV) (s : StE) : gnE (twE t s.town) s.fst (nE s) = tkE t s - rentE t s := gnE_eq _ _ _
end Go.Er
namespace Go.Proofs.Ytilkoooahoecfaa.Er
open Go.RowKit Go.Bs Go.Pl Go.Sort Go.Er
theorem day_pred (l : List (Int × Int)) (d cold : Int) (D X : Nat) (w : World) (hD : w.cell? ⟨D, 0, none⟩ = some (.int .i64 d)) (hX : w.cell? ⟨X, 7, none⟩ = some (.int .i64 cold)) (hr : rivOk l l.length) (hc : 0 ≤ cold ∧ cold ≤ 60) :
    PredR Try.prog 61 #[] #[.pointer (some ⟨D, 0, none⟩), .pointer (some ⟨X, 0, none⟩)] valR (fun r => decide (r.1 ≤ d ∧ d ≤ r.2 + cold)) w l := by
  intro W x hx hb
  obtain ⟨i, hi, rfl⟩ := List.mem_iff_getElem.1 hx
  have h1 := hr i hi
  rw [getD_at _ hi] at h1
  generalize l[i] = z at *
  obtain ⟨x, y⟩ := z
  simp only at h1
  have C1 := Lib.hid (fun V => rwithin_any d x (y + cold) V)
  have hD1 := cell_ext hD hb
  have hX1 := cell_ext hX hb
  have hDl := cell_lt hD1
  have hXl := cell_lt hX1
  have hx := ext_alloc W (.cells #[.int .i64 x, .int .i64 y] 95)
  have e1 : wrap64 (y + cold) = y + cold := by unfold wrap64; omega
  clear hD hX hr
  show Calls Try.prog 61 #[.agg #[.int .i64 x, .int .i64 y], .pointer (some ⟨D, 0, none⟩), .pointer (some ⟨X, 0, none⟩)] W fun e w' => e = .returned (.bool (btwE d x (y + cold))) ∧ Below W.heap.size W w'
  generalize btwE d x (y + cold) = q at *
  go_enter Try.func61, Try.ntmps61
  go_wp2_with fail
  refine (C1.out _).mono ?_; rintro e w1 ⟨rfl, rfl⟩
  go_wp2
  go_ret
  exact ⟨rfl, hx⟩
set_option maxRecDepth 100000 in
theorem day_any (v : TwV) (d days : Int) (w : World) (hM : TwM w v) (ht : TownOk v.x days) : Calls Try.prog 32 #[v.val, .int .i64 d] w fun e w' => e = .returned (.int .i64 (dayE v.x d)) ∧ Below w.heap.size w w' := by
  have hx1 := ext_alloc w (.cells v.enc.toArray 97)
  have hx2 := ext_alloc (w.alloc (.cells v.enc.toArray 97)) (.cells #[.int .i64 d] 3)
  have k1 := (Blk.new w 97 v.enc).ext hx2
  have k2 := Blk.new (w.alloc (.cells v.enc.toArray 97)) 3 [.int .i64 d]
  have e1 : (w.alloc (.cells v.enc.toArray 97)).heap.size = w.heap.size + 1 := by simp
  rw [e1] at k2
  have hx := ext_trans hx1 hx2
  have hR := hM.riv.ext hx
  have Ht := Lib.hid ht
  have hp := ht.pay
  have hc := ht.cut
  have hr3 := ht.r3
  clear hM hx1 hx2 e1
  obtain ⟨⟨opn, slo, shi, pay, lot, rent, riv, cold, cut⟩, O, co, R, cr⟩ := v
  simp only at hp hc hr3
  have C := Lib.hid (contains_rng 61 #[] #[.pointer (some ⟨w.heap.size + 1, 0, none⟩), .pointer (some ⟨w.heap.size, 0, none⟩)] (fun r => decide (r.1 ≤ d ∧ d ≤ r.2 + cold)) R riv.length cr riv _ (enters_of Try.func61 (by kernel_rfl) rfl) rfl (by omega) hR (day_pred riv d cold (w.heap.size + 1) w.heap.size _ (k2.cell (i := 0) rfl) (k1.cell (i := 7) rfl) Ht.out.riv Ht.out.cold))
  unfold dayE
  simp only
  unfold TwV.val TwV.enc at *
  simp only at k1 k2 hx C ⊢
  generalize riv.any (fun r => decide (r.1 ≤ d ∧ d ≤ r.2 + cold)) = q at *
  have hX1 : 0 ≤ pay * (1000 - cut) := Int.mul_nonneg hp.1 (by omega)
  have hX2 : pay * (1000 - cut) ≤ pay * 1000 := Int.mul_le_mul_of_nonneg_left (by omega) hp.1
  have e1 : wrap64 (1000 - cut) = 1000 - cut := by unfold wrap64; omega
  have e2 : wrap64 (pay * (1000 - cut)) = pay * (1000 - cut) := by unfold wrap64; omega
  have e3 : wrap64 ((pay * (1000 - cut)).tdiv 1000) = (pay * (1000 - cut)).tdiv 1000 := by
    rw [Int.tdiv_eq_ediv_of_nonneg hX1]
    unfold wrap64
    omega
  generalize opn.length = no at *
  generalize riv.length = nr at *
  clear hR Ht ht hX1 hX2
  go_enter Try.func32, Try.ntmps32
  go_upto_region 1 with fail
  change Blk ((w.alloc (.cells #[.slice O no co, .int .i64 slo, .int .i64 shi, .int .i64 pay, .int .i64 lot, .int .i64 rent, .slice R nr cr, .int .i64 cold, .int .i64 cut] 97)).alloc (.cells #[.int .i64 d] 3)) _ _ _ at k1 k2
  change Below w.heap.size w ((w.alloc (.cells #[.slice O no co, .int .i64 slo, .int .i64 shi, .int .i64 pay, .int .i64 lot, .int .i64 rent, .slice R nr cr, .int .i64 cold, .int .i64 cut] 97)).alloc (.cells #[.int .i64 d] 3)) at hx
  generalize (w.alloc (.cells #[.slice O no co, .int .i64 slo, .int .i64 shi, .int .i64 pay, .int .i64 lot, .int .i64 rent, .slice R nr cr, .int .i64 cold, .int .i64 cut] 97)).alloc (.cells #[.int .i64 d] 3) = W1 at *
  have c6 : W1.cell? ⟨w.heap.size, 6, none⟩ = _ := k1.cell (i := 6) rfl
  go_wp2_with fail
  refine C.out.mono ?_; rintro e W2 ⟨rfl, hb2⟩
  have k1b := k1.ext hb2
  have hxb := ext_trans hx hb2
  clear c6 k1 k2 hx hb2 C
  have c3 : W2.cell? ⟨w.heap.size, 3, none⟩ = _ := k1b.cell (i := 3) rfl
  have c8 : W2.cell? ⟨w.heap.size, 8, none⟩ = _ := k1b.cell (i := 8) rfl
  cases q
  · go_wp2
    go_ret
    exact ⟨by simp, hxb⟩
  · go_wp2
    go_ret
    exact ⟨by simp, hxb⟩
set_option maxRecDepth 100000 in
set_option maxHeartbeats 1000000 in
theorem gain_any (t : TrV) (s : StE) (w : World) (hM : TrM w t) (ht : TrOk t) (hs : StopOk t s) : Calls Try.prog 53 #[t.val, s.val] w fun e w' => e = .returned (.int .i64 (tkE t s - rentE t s)) ∧ Below w.heap.size w w' := by
  rw [← gain_eq]
  have hx1 := ext_alloc w (.cells t.cells.toArray 33)
  have hx2 := ext_alloc (w.alloc (.cells t.cells.toArray 33)) (.cells s.enc.toArray 104)
  have k1 := (Blk.new w 33 t.cells).ext hx2
  have k2 := Blk.new (w.alloc (.cells t.cells.toArray 33)) 104 s.enc
  have e1 : (w.alloc (.cells t.cells.toArray 33)).heap.size = w.heap.size + 1 := by simp
  rw [e1] at k2
  have hx := ext_trans hx1 hx2
  have hM1 := hM.ext hx
  have hn10 := hs.n10
  have hn : (nE s : Int) = s.lst - s.fst + 1 := by have := hs.fst; unfold nE; omega
  have hfs := hs.fst
  have hls := hs.lst
  have hdy := ht.days
  have hst := hs.town
  have hTk := hs.tw ht
  clear hx1 hx2 e1 hM hs ht
  obtain ⟨a, f, z⟩ := s
  obtain ⟨k, hk⟩ : ∃ k : Nat, a = (k : Int) := ⟨a.toNat, by simp only at hst; omega⟩
  subst hk
  generalize hN : nE ⟨(k : Int), f, z⟩ = N at *
  clear hN
  simp only at hn hfs hls hst hTk ⊢
  have hkt : k < t.tw.length := by omega
  have hk0 : (0 : Int) ≤ (k : Int) := by omega
  have hkn : (k : Int) < (t.tw.length : Int) := by omega
  have htw : twE t (k : Int) = (t.tw[k]).x := by unfold twE; rw [Int.toNat_natCast, getD_at _ hkt]
  rw [htw] at hTk ⊢
  obtain ⟨b3, off3, hA, hc⟩ := tw_at hM1.tw hkt
  have hvM := hM1.town _ (List.getElem_mem hkt)
  have r0 := hc 0 _ rfl
  have r1 := hc 1 _ rfl
  have r2 := hc 2 _ rfl
  have r3 := hc 3 _ rfl
  have r4 := hc 4 _ rfl
  have r5 := hc 5 _ rfl
  have r6 := hc 6 _ rfl
  have r7 := hc 7 _ rfl
  have r8 := hc 8 _ rfl
  clear hc htw hM1
  generalize t.tw[k] = v at *
  have CD := Lib.hid (fun V d (hV : TwM V v) => day_any v d t.days V hV hTk)
  have hdb := Lib.hid (fun d => dayE_bd hTk d)
  have hgb := Lib.hid (fun n => gnE_bd hTk f n)
  have hrn := hTk.rent
  clear hTk
  generalize hG : gnE v.x f = G
  have HG0 := Lib.hid (show G 0 = 0 from by rw [← hG]; rfl)
  have HGs := Lib.hid (show ∀ n : Nat, G (n + 1) = G n + (dayE v.x (f + n) - v.x.rent) from fun n => by rw [← hG]; rfl)
  rw [hG] at hgb
  clear hG
  obtain ⟨⟨opn, slo, shi, pay, lot, rent, riv, cold, cut⟩, O, co, R, cr⟩ := v
  unfold TwV.val TrV.val TrV.cells StE.val StE.enc at *
  simp only at r0 r1 r2 r3 r4 r5 r6 r7 r8 CD HGs hrn hdb ⊢
  simp only [Nat.add_zero] at r0
  generalize dayE ⟨opn, slo, shi, pay, lot, rent, riv, cold, cut⟩ = dy at *
  have hvM0 := Lib.hid hvM
  clear hvM
  have HA := Lib.hid hA
  clear hA
  generalize opn.length = no at *
  generalize riv.length = nr at *
  go_enter Try.func53, Try.ntmps53
  go_upto_region 1 with fail
  change Blk ((w.alloc (.cells #[.int .i64 t.days, .int .i64 t.shift, .int .i64 t.size, .slice t.A t.tw.length t.ca, .slice t.B t.lg.length t.cb] 33)).alloc (.cells #[.int .i64 (k : Int), .int .i64 f, .int .i64 z] 104)) _ _ _ at k1 k2
  change Below w.heap.size w ((w.alloc (.cells #[.int .i64 t.days, .int .i64 t.shift, .int .i64 t.size, .slice t.A t.tw.length t.ca, .slice t.B t.lg.length t.cb] 33)).alloc (.cells #[.int .i64 (k : Int), .int .i64 f, .int .i64 z] 104)) at hx
  generalize (w.alloc (.cells #[.int .i64 t.days, .int .i64 t.shift, .int .i64 t.size, .slice t.A t.tw.length t.ca, .slice t.B t.lg.length t.cb] 33)).alloc (.cells #[.int .i64 (k : Int), .int .i64 f, .int .i64 z] 104) = W1 at *
  rw [HA.out] at k1 ⊢
  have c3 : W1.cell? ⟨w.heap.size, 3, none⟩ = _ := k1.cell (i := 3) rfl
  have d0 : W1.cell? ⟨w.heap.size + 1, 0, none⟩ = _ := k2.cell (i := 0) rfl
  have d1 : W1.cell? ⟨w.heap.size + 1, 1, none⟩ = _ := k2.cell (i := 1) rfl
  have hk2l := k2.lt
  go_upto_block 0 with fail
  have hxn := ext_alloc W1 (.cells #[.slice O no co, .int .i64 slo, .int .i64 shi, .int .i64 pay, .int .i64 lot, .int .i64 rent, .slice R nr cr, .int .i64 cold, .int .i64 cut] 97)
  have hV := Blk.new W1 97 [.slice O no co, .int .i64 slo, .int .i64 shi, .int .i64 pay, .int .i64 lot, .int .i64 rent, .slice R nr cr, .int .i64 cold, .int .i64 cut]
  have hS2 := k2.ext hxn
  have hxb := ext_trans hx hxn
  have hvM2 := hvM0.out.ext hxn
  change Blk (W1.alloc (.cells #[.slice O no co, .int .i64 slo, .int .i64 shi, .int .i64 pay, .int .i64 lot, .int .i64 rent, .slice R nr cr, .int .i64 cold, .int .i64 cut] 97)) _ _ _ at hV
  clear c3 d0 d1 r0 r1 r2 r3 r4 r5 r6 r7 r8 k1 k2 hx hxn hvM0 hk2l
  generalize hW2 : W1.alloc (.cells #[.slice O no co, .int .i64 slo, .int .i64 shi, .int .i64 pay, .int .i64 lot, .int .i64 rent, .slice R nr cr, .int .i64 cold, .int .i64 cut] 97) = W2 at *
  generalize hvb : W1.heap.size = vb at *
  clear hW2 hvb
  try simp only [Nat.add_assoc, Nat.reduceAdd]
  go_wp2
  go_loopw [4, 6] (fun out dd wr => ∃ (n : Nat) (g : Int), out = .int .i64 g ∧ Hid (g = G n) ∧ dd = .int .i64 (f + n) ∧ n ≤ N ∧ Below W2.heap.size W2 wr) (fun _ dd _ => N - (intOf dd - f).toNat)
  case atStart => exact ⟨0, 0, rfl, Lib.hid HG0.out.symm, by simp, by omega, Below.refl _ _⟩
  case round =>
    obtain ⟨n, g, rfl, Hg, rfl, hn9, hb⟩ := hrel
    have hSr := hS2.ext hb
    have d2 : wr.cell? ⟨w.heap.size + 1, 2, none⟩ = _ := hSr.cell (i := 2) rfl
    have hgbn := hgb.out n
    rw [← Hg.out] at hgbn
    by_cases hlt : n < N
    · have hle : f + (n : Int) ≤ z := by omega
      have hdn := hdb.out (f + n)
      have HGn := Lib.hid (HGs.out n)
      generalize hdy2 : dy (f + n) = y at *
      have Hdy := Lib.hid hdy2
      clear hdy2
      have e1 : wrap64 (y - rent) = y - rent := by unfold wrap64; omega
      have e2 : wrap64 (g + (y - rent)) = g + (y - rent) := by unfold wrap64; omega
      have e3 : wrap64 (f + (n : Int) + 1) = f + (n : Int) + 1 := by unfold wrap64; omega
      go_upto_region 5 with fail
      refine Dr.wp_region_plan 9 [] (.q [0, 1, 2, 4, 5] (.e1 3 (.q [6, 7, 8] .done))) (by kernel_rfl) (by kernel_rfl) ?_
      have hbd := hb.drew
      have hVd := (hV.ext hb).drew
      have hvMd := hvM2.ext hbd
      clear d2 hSr hb
      generalize World.drew wr = V at *
      have q0 := Dr.cell0 (hVd.cell (i := 0) rfl)
      have q1 := Dr.cell0 (hVd.cell (i := 1) rfl)
      have q2 := Dr.cell0 (hVd.cell (i := 2) rfl)
      have q3 := Dr.cell0 (hVd.cell (i := 3) rfl)
      have q4 := Dr.cell0 (hVd.cell (i := 4) rfl)
      have q5 := Dr.cell0 (hVd.cell (i := 5) rfl)
      have q6 := Dr.cell0 (hVd.cell (i := 6) rfl)
      have q7 := Dr.cell0 (hVd.cell (i := 7) rfl)
      have q8 := Dr.cell0 (hVd.cell (i := 8) rfl)
      with_reducible refine Dr.plan_q (l := [_, _, _, _, _]) (by with_unfolding_all exact rfl) (fun K hK => ?_)
      iterate 5 (go_big_quiet_step (fail))
      refine wpQuiet_nil (hK _ ?_); clear hK K
      clear q0 q1 q2 q3 q4 q5 q6 q7 q8
      refine Dr.plan_e rfl (by rfl) (fun K hK => ?_)
      go_wp2_with fail
      refine (CD.out _ (f + n) hvMd).mono ?_; rintro e V1 ⟨rfl, hb1⟩
      refine hK _ _ (.of hb1) ?_; clear hK K
      rw [Hdy.out]
      have hbf := ext_trans hbd hb1
      clear hbd hb1 hVd hvMd
      with_reducible refine Dr.plan_q (l := [_, _, _]) (by with_unfolding_all exact rfl) (fun K hK => ?_)
      iterate 3 (go_big_quiet_step (fail))
      refine wpQuiet_nil (hK _ ?_); clear hK K
      refine Dr.plan_end rfl ?_
      try go_frame
      go_wp2
      go_roundw
      case rel => exact ⟨n + 1, g + (y - rent), rfl, Lib.hid (by rw [HGn.out, Hg.out]), by push_cast; rw [Int.add_assoc], by omega, hbf⟩
      case measure => simp [intOf]; omega
    · obtain rfl : n = N := by omega
      have hle : ¬ f + (n : Int) ≤ z := by omega
      have Hgf := Lib.hid Hg.out
      go_wp2
      go_ret
      exact ⟨ret_congr (int_congr Hgf.out), ext_trans hxb hb⟩
end Go.Proofs.Ytilkoooahoecfaa.Er

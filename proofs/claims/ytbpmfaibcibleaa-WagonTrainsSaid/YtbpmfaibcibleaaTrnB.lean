/- The law WagonTrains returns true for every argument, and leaves all as they were. No condition. -/
import Derived.Test.YtbpmfaibcibleaaFilE
import Derived.Test.YtbpmfaibcibleaaAppH
import Derived.Test.YtbpmfaibcibleaaWaR
/- The law WagonTrains: plain facts, and its walk. (Printed by mk_trna.py.) -/
namespace Go.Wg
open Go.RowKit Go.Bs Go.Pl
/-- how often each number has come -/
def cntL (S : List Int) : Nat → Int := fun z => ((S.count (z : Int) : Nat) : Int)
theorem cntL_snoc (S : List Int) (i : Nat) : upd (cntL S) i (cntL S i + 1) = cntL (S ++ [(i : Int)]) := by
  funext z
  unfold upd cntL
  rw [List.count_append]
  by_cases hz : z = i
  · subst hz; rw [if_pos rfl]; simp
  · rw [if_neg hz, List.count_singleton]
    have : ((i : Int) == (z : Int)) = false := by simp; omega
    rw [this]; simp
theorem cntL_bd (S : List Int) (i : Nat) : 0 ≤ cntL S i ∧ cntL S i ≤ S.length := by
  have h1 := List.count_le_length (a := (i : Int)) (l := S)
  unfold cntL
  omega
theorem flat_split {α : Type} (L : List (List α)) {i : Nat} (h : i < L.length) : L.flatten = (L.take i).flatten ++ (L[i] ++ (L.drop (i + 1)).flatten) := by
  have e : L = L.take i ++ (L[i] :: L.drop (i + 1)) := by rw [← List.drop_eq_getElem_cons h, List.take_append_drop]
  conv => lhs; rw [e]
  rw [List.flatten_append, List.flatten_cons]
theorem flat_snoc' {α : Type} (L : List (List α)) {i : Nat} (h : i < L.length) : (L.take (i + 1)).flatten = (L.take i).flatten ++ L[i] := by
  rw [List.take_succ_eq_append_getElem h, List.flatten_append]; simp
/-- what has been needed so far is not more than what is needed later -/
def HiOk (FP : List (List (List Int))) (ts : List Th) (i : Nat) (v : Int) : Prop := 0 ≤ v ∧ v ≤ 1000 ∧ ∀ j p, i ≤ j → FP[j]? = some p → ∀ y ∈ p.flatten, v ≤ nk ts y
theorem HiOk.start {FP : List (List (List Int))} {ts : List Th} (h : ∀ p ∈ FP, ∀ y ∈ p.flatten, 0 ≤ nk ts y) : HiOk FP ts 0 0 :=
  ⟨by omega, by omega, fun _ p _ hp y hy => h p (List.mem_of_getElem? hp) y hy⟩
theorem HiOk.mono {FP : List (List (List Int))} {ts : List Th} {i k : Nat} {v : Int} (h : HiOk FP ts i v) (hik : i ≤ k) : HiOk FP ts k v := ⟨h.1, h.2.1, fun j p hj => h.2.2 j p (by omega)⟩
theorem HiOk.up {FP : List (List (List Int))} {ts : List Th} {i : Nat} {v x : Int} (h : HiOk FP ts (i + 1) v) (hp : FP.Pairwise (fun p q => ∀ x ∈ p.flatten, ∀ y ∈ q.flatten, nk ts x ≤ nk ts y)) {p : List (List Int)} (hi : FP[i]? = some p) (hx : x ∈ p.flatten) (hx2 : nk ts x ≤ 1000) : HiOk FP ts (i + 1) (max v (nk ts x)) := by
  obtain ⟨h1, h2, h3⟩ := h
  refine ⟨by omega, by omega, fun j q hj hq y hy => ?_⟩
  have h4 := h3 j q hj hq y hy
  obtain ⟨hi1, hi2⟩ := List.getElem?_eq_some_iff.1 hi
  obtain ⟨hj1, hj2⟩ := List.getElem?_eq_some_iff.1 hq
  have h5 := List.pairwise_iff_getElem.1 hp i j hi1 hj1 (by omega)
  rw [hi2, hj2] at h5
  have := h5 x hx y hy
  omega
/-- each number once -/
theorem fill_once {ts : List Th} {ls : List Lo} (h : fillR ts ls (byNeed ts) = []) : ((fillP ts ls (byNeed ts)).flatten.flatten).Perm (upto ts.length) := by
  have h1 := fill_perm ts ls (byNeed ts)
  rw [h, List.append_nil] at h1
  exact h1.trans (byNeed_perm ts)
theorem rows_flat_mem {p : List (List Int)} {k e : Nat} (hk : k < p.length) (he : e < p[k].length) : p[k][e] ∈ p.flatten := List.mem_flatten.2 ⟨p[k], List.getElem_mem hk, List.getElem_mem he⟩
theorem rows_get {rs : List RwV} {p : List (List Int)} (h : rows rs = p) {k : Nat} (hk : k < rs.length) : ∃ h2 : k < p.length, p[k] = rs[k].r := by
  subst h
  exact ⟨by rw [rows_len]; exact hk, by simp [rows]⟩
theorem pks_get {ps : List PkV} {P : List (List (List Int))} (h : pks ps = P) {k : Nat} (hk : k < ps.length) : P[k]? = some (rows ps[k].rs) := by
  subst h
  unfold pks
  rw [List.getElem?_map, List.getElem?_eq_getElem hk]; rfl
end Go.Wg
namespace Go.Proofs.Ytbpmfaibcibleaa
open Go.RowKit Go.Bs Go.Wg Go.Pl Go.Sort
theorem info37 : (Try.prog.info? 37).map (fun i => (i.zero, i.size, i.bytes)) = some (some (.agg #[.slice none 0 0, .int .i64 0, .int .i64 0, .int .i64 0, .int .i64 0, .int .i64 0, .int .i64 0]), 7, 72) := by kernel_rfl
theorem et88 : ElemT Try.prog 88 37 7 72 := ElemT.mk Try.underlying88 info37 rfl
set_option maxRecDepth 100000 in
set_option maxHeartbeats 16000000 in
theorem trains_law (A : Option Addr) (n c : Nat) (ls : List LoV) (T : Option Addr) (m cT : Nat) (ts : List Th) (Kx : Option Addr) (q cK : Nat) (kh kca kem kre kax kdk : Int) (kl : List Int) (w : World) (hn : ls.length = n) (hn0 : n ≤ 9223372036854775807) (hM : LsM w A ls) (hll : ∀ x ∈ ls, x.l.lanes.length ≤ 9223372036854775807) (hm : ts.length = m) (hm0 : m ≤ 9223372036854775807) (ht : Cells w T 4 Th.enc ts) (hq : kl.length = q) (hq0 : q ≤ 9223372036854775807) (hK : Cells w Kx 1 Go.Bs.encI kl) :
    Calls Try.prog 15 #[.slice A n c, .slice T m cT, .agg #[.slice Kx q cK, .int .i64 kh, .int .i64 kca, .int .i64 kem, .int .i64 kre, .int .i64 kax, .int .i64 kdk]] w fun e w' => e = .returned (.bool true) ∧ Below w.heap.size w w' := by
  have Hn := Lib.hid hn
  have Hm := Lib.hid hm
  have Hq := Lib.hid hq
  have HM := Lib.hid hM
  have Ht := Lib.hid ht
  have HK := Lib.hid hK
  have Hll := Lib.hid hll
  have CRt := Lib.hid (fun V (hV : Below w.heap.size w V) => rthings_any T m cT ts V hm (by omega) (ht.ext hV))
  have CRm := Lib.hid (fun V (hV : Below w.heap.size w V) => rlorry_any Kx q cK kh kca kem kre kax kdk kl V hq (by omega) (hK.ext hV))
  obtain ⟨b1, hb1⟩ : ∃ b, ts.all Th.okB = b := ⟨_, rfl⟩
  obtain ⟨b2, hb2⟩ : ∃ b, Lo.okB ⟨kl, kh, kca, kem, kre, kax, kdk⟩ = b := ⟨_, rfl⟩
  rw [hb1] at CRt
  rw [hb2] at CRm
  obtain ⟨bad, hbad⟩ : ∃ b, (decide (n < 1 ∨ 5 < n ∨ 20 < m) || !b1 || !b2) = b := ⟨_, rfl⟩
  have Hb1 := Lib.hid hb1
  have Hb2 := Lib.hid hb2
  have Hbad := Lib.hid hbad
  clear hn hm hq hM ht hK hll hb1 hb2 hbad
  have hb := ext_alloc w (.cells #[.slice Kx q cK, .int .i64 kh, .int .i64 kca, .int .i64 kem, .int .i64 kre, .int .i64 kax, .int .i64 kdk] 37)
  have hP := Blk.new w 37 [.slice Kx q cK, .int .i64 kh, .int .i64 kca, .int .i64 kem, .int .i64 kre, .int .i64 kax, .int .i64 kdk]
  go_enter Try.func15, Try.ntmps15
  go_upto_region 1 with fail
  change Blk (w.alloc (.cells #[.slice Kx q cK, .int .i64 kh, .int .i64 kca, .int .i64 kem, .int .i64 kre, .int .i64 kax, .int .i64 kdk] 37)) _ _ _ at hP
  change Below w.heap.size w (w.alloc (.cells #[.slice Kx q cK, .int .i64 kh, .int .i64 kca, .int .i64 kem, .int .i64 kre, .int .i64 kax, .int .i64 kdk] 37)) at hb
  generalize w.alloc (.cells #[.slice Kx q cK, .int .i64 kh, .int .i64 kca, .int .i64 kem, .int .i64 kre, .int .i64 kax, .int .i64 kdk] 37) = W0 at *
  go_cut [43] from 21 to 42 (fun b W => b = .bool bad ∧ Below w.heap.size w W ∧ Blk W w.heap.size 37 [.slice Kx q cK, .int .i64 kh, .int .i64 kca, .int .i64 kem, .int .i64 kre, .int .i64 kax, .int .i64 kdk])
  case first =>
    rcases (show n < 1 ∨ (¬ n < 1 ∧ 5 < n) ∨ (¬ n < 1 ∧ ¬ 5 < n ∧ 20 < m) ∨ (¬ n < 1 ∧ ¬ 5 < n ∧ ¬ 20 < m) by omega) with h1 | ⟨h1, h2⟩ | ⟨h1, h2, h3⟩ | ⟨h1, h2, h3⟩
    · have g1 : (n : Int) < 1 := by omega
      have Hb := Lib.hid (show true = bad by rw [← Hbad.out, decide_eq_true (by omega)]; rfl)
      go_wp2
      go_meet
      case rel => exact ⟨by rw [← Hb.out], hb, hP⟩
    · have g1 : ¬ (n : Int) < 1 := by omega
      have g2 : (5 : Int) < (n : Int) := by omega
      have Hb := Lib.hid (show true = bad by rw [← Hbad.out, decide_eq_true (by omega)]; rfl)
      go_wp2
      go_meet
      case rel => exact ⟨by rw [← Hb.out], hb, hP⟩
    · have g1 : ¬ (n : Int) < 1 := by omega
      have g2 : ¬ (5 : Int) < (n : Int) := by omega
      have g3 : (20 : Int) < (m : Int) := by omega
      have Hb := Lib.hid (show true = bad by rw [← Hbad.out, decide_eq_true (by omega)]; rfl)
      go_wp2
      go_meet
      case rel => exact ⟨by rw [← Hb.out], hb, hP⟩
    · have g1 : ¬ (n : Int) < 1 := by omega
      have g2 : ¬ (5 : Int) < (n : Int) := by omega
      have g3 : ¬ (20 : Int) < (m : Int) := by omega
      have Hb := Lib.hid (show (!b1 || !b2) = bad by rw [← Hbad.out, decide_eq_false (by omega)]; rfl)
      go_wp2_with fail
      refine (CRt.out _ hb).mono ?_; rintro e V1 ⟨rfl, rfl⟩
      cases b1 with
      | false =>
        go_wp2
        go_meet
        case rel => exact ⟨by rw [← Hb.out]; rfl, hb, hP⟩
      | true =>
        have q0 : W0.cell? ⟨w.heap.size, 0, none⟩ = _ := hP.cell rfl
        have q1 : W0.cell? ⟨w.heap.size, 1, none⟩ = _ := hP.cell rfl
        have q2 : W0.cell? ⟨w.heap.size, 2, none⟩ = _ := hP.cell rfl
        have q3 : W0.cell? ⟨w.heap.size, 3, none⟩ = _ := hP.cell rfl
        have q4 : W0.cell? ⟨w.heap.size, 4, none⟩ = _ := hP.cell rfl
        have q5 : W0.cell? ⟨w.heap.size, 5, none⟩ = _ := hP.cell rfl
        have q6 : W0.cell? ⟨w.heap.size, 6, none⟩ = _ := hP.cell rfl
        go_wp2_with fail
        refine (CRm.out _ hb).mono ?_; rintro e V2 ⟨rfl, hx⟩
        have hbV := ext_trans hb hx
        have hPV := hP.ext hx
        clear q0 q1 q2 q3 q4 q5 q6
        go_wp2
        go_meet
        case rel => exact ⟨by rw [← Hb.out]; simp, hbV, hPV⟩
  case rest =>
  obtain ⟨rfl, hb3, hP3⟩ := hcut
  generalize wc = W1 at *
  clear hb hP CRt CRm
  cases bad with
  | true =>
    go_wp2_with fail
    refine (awake_any _).mono ?_; rintro e Wz ⟨rfl, hxz⟩
    have hbz := ext_trans hb3 hxz
    go_wp2
    go_ret
    exact ⟨rfl, hbz⟩
  | false =>
  have hbd : b1 = true ∧ b2 = true ∧ ¬ (n < 1 ∨ 5 < n ∨ 20 < m) := by
    have := Hbad.out
    simp only [Bool.or_eq_false_iff, Bool.not_eq_false', decide_eq_false_iff_not] at this
    exact ⟨this.1.2, this.2, this.1.1⟩
  obtain ⟨rfl, rfl, hnm⟩ := hbd
  have hn5 : 1 ≤ n ∧ n ≤ 5 := by omega
  have hm20 : m ≤ 20 := by omega
  have Hok := Lib.hid (show ∀ t ∈ ts, t.Ok from fun t h9 => Th.ok_iff.1 (List.all_eq_true.1 Hb1.out t h9))
  have Hmok := Lib.hid (Lo.ok_iff.1 Hb2.out)
  clear hnm Hbad Hb1 Hb2
  go_wp2
  go_loopw [7] (fun t wr => ∃ k : Nat, t = .int .i64 k ∧ k ≤ n ∧ Hid (∀ x ∈ ls.take k, x.l.Ok) ∧ Below w.heap.size w wr ∧ Blk wr w.heap.size 37 [.slice Kx q cK, .int .i64 kh, .int .i64 kca, .int .i64 kem, .int .i64 kre, .int .i64 kax, .int .i64 kdk]) (fun t _ => n - (intOf t).toNat)
  case atStart => exact ⟨0, rfl, by omega, Lib.hid (by simp), hb3, hP3⟩
  case round =>
    clear hb3 hP3
    obtain ⟨k, rfl, hk, Hal, hb, hP⟩ := hrel
    by_cases hlt : k < n
    · have hlt' : (k : Int) < (n : Int) := by omega
      have hkl : k < ls.length := by rw [Hn.out]; exact hlt
      obtain ⟨b, off, rfl, -, d0, d1, d2, d3, d4, d5, d6⟩ := (HM.out.ext hb).hdr.at7 hkl rfl
      have hrow := HM.out.row _ (List.getElem_mem hkl)
      have hll := Hll.out _ (List.getElem_mem hkl)
      have Htk := Lib.hid (show ls.take (k + 1) = ls.take k ++ [ls[k]] from List.take_succ_eq_append_getElem hkl)
      obtain ⟨x, hx⟩ : ∃ x, ls[k] = x := ⟨_, rfl⟩
      rw [hx] at d0 d1 d2 d3 d4 d5 d6 hrow hll Htk
      clear hx
      obtain ⟨⟨lanes, h, ca, em, re, ax, dk⟩, xA, xc⟩ := x
      simp only at d0 d1 d2 d3 d4 d5 d6 hrow hll
      have CR := Lib.hid (rlorry_any xA lanes.length xc h ca em re ax dk lanes wr rfl hll (hrow.ext hb))
      obtain ⟨b3, hb3⟩ : ∃ b, Lo.okB ⟨lanes, h, ca, em, re, ax, dk⟩ = b := ⟨_, rfl⟩
      rw [hb3] at CR
      have Hb3 := Lib.hid hb3
      clear hb3 hrow hll
      go_wp2_with fail
      refine CR.out.mono ?_; rintro e V1 ⟨rfl, hx1⟩
      have hbV := ext_trans hb hx1
      have hPV := hP.ext hx1
      clear CR d0 d1 d2 d3 d4 d5 d6
      cases b3 with
      | false =>
        go_wp2_with fail
        refine (awake_any _).mono ?_; rintro e Wz ⟨rfl, hxz⟩
        have hbz := ext_trans hbV hxz
        go_wp2
        go_ret
        exact ⟨rfl, hbz⟩
      | true =>
        have Hal2 := Lib.hid (show ∀ x ∈ ls.take (k + 1), x.l.Ok from fun x hx => by
          rw [Htk.out] at hx
          rcases List.mem_append.1 hx with h5 | h5
          · exact Hal.out x h5
          · rw [List.mem_singleton.1 h5]; exact Lo.ok_iff.1 Hb3.out)
        go_wp2
        go_roundw
        case rel => exact ⟨k + 1, by go_num, by omega, Hal2, hbV, hPV⟩
        case measure => simp [intOf]; omega
    · obtain rfl : k = n := by omega
      have htl : ls.take k = ls := List.take_of_length_le (by rw [Hn.out]; exact Nat.le_refl _)
      rw [htl] at Hal
      clear htl hlt
      have CLo := Lib.hid (fun V (hV : Below w.heap.size w V) => lorries_any A k c ls V Hn.out (by omega) (HM.out.ext hV) (fun x hx => by have := (Hal.out x hx).many; omega))
      have CTh := Lib.hid (fun V (hV : Below w.heap.size w V) => thingsC T cT ts V (by rw [Hm.out]; omega) (Ht.out.ext hV))
      rw [Hm.out] at CTh
      have CFi := Lib.hid (fun V N A2 c2 (ls2 : List LoV) T2 cT2 (L0 : List Lo) (e1 : ls2.map LoV.l = L0) (hN : L0.length = N) (hL : ∀ x ∈ L0, x.Ok) (hN1 : N ≤ 6) (h1 : LsM V A2 ls2) (h2 : Cells V T2 4 Th.enc ts) => Fill_any A2 N c2 ls2 T2 m cT2 ts V (by rw [← hN, ← e1, List.length_map]) (by omega) h1 (fun x hx => by
        have h3 : x.l ∈ L0 := by rw [← e1]; exact List.mem_map.2 ⟨x, hx, rfl⟩
        have := (hL x.l h3).many
        omega) Hm.out (by omega) h2 (by omega))
      unfold FlR at CFi
      have hlo2 : ∀ x ∈ ls.map LoV.l, x.Ok := fun x hx => by
        obtain ⟨y, hy, rfl⟩ := List.mem_map.1 hx
        exact Hal.out y hy
      have Hlo2 := Lib.hid hlo2
      clear hlo2
      go_wp2_with fail
      refine (CLo.out _ hb).mono ?_; rintro e V1 ⟨⟨A2, c2, ls2, rfl, hl2, hM2⟩, hx⟩
      replace hb := ext_trans hb hx
      replace hP := hP.ext hx
      clear hx CLo
      go_wp2_with fail
      refine (CTh.out _ hb).mono ?_; rintro e V2 ⟨⟨T2, cT2, rfl, hT2⟩, hx⟩
      replace hb := ext_trans hb hx
      replace hP := hP.ext hx
      replace hM2 := hM2.ext hx
      clear hx
      have CF := CFi.out V2 k A2 c2 ls2 T2 cT2 (ls.map LoV.l) hl2 (by rw [List.length_map, Hn.out]) Hlo2.out (by omega) hM2 hT2
      rw [hl2] at CF
      replace CF := Lib.hid CF
      clear hl2 hM2 hT2
      go_wp2_with fail
      refine CF.out.mono ?_; rintro e V3 ⟨hx, v, rfl, ⟨Av, cv, pv, rfl, hpv, hMv⟩⟩
      replace hb := ext_trans hb hx
      replace hP := hP.ext hx
      clear hx CF
      have hcg : cargoE ts 40 = 0 := cargoE_zero.2 ⟨by rw [Hm.out]; omega, Hok.out⟩
      have hall : (ls.map LoV.l).all Lo.okB = true := List.all_eq_true.2 fun x hx => Lo.ok_iff.2 (Hlo2.out x hx)
      have Hfr := Lib.hid (show fillRes (ls.map LoV.l) ts = if fillR ts (ls.map LoV.l) (byNeed ts) = [] then (fillP ts (ls.map LoV.l) (byNeed ts), 0) else ([], 7) by
        unfold fillRes
        rw [List.length_map, Hn.out, show btw (k : Int) 1 6 = true from by unfold btw; exact decide_eq_true (by omega), hall, hcg]; rfl)
      have Hfr2 := Lib.hid (show fillR ts (ls.map LoV.l) (byNeed ts) = [] → fillRes (ls.map LoV.l ++ [⟨kl, kh, kca, kem, kre, kax, kdk⟩]) ts = (fillP ts (ls.map LoV.l) (byNeed ts) ++ [List.replicate q []], 0) from fun h9 => by
        unfold fillRes
        rw [List.length_append, List.length_map, Hn.out, show btw ((k + [(⟨kl, kh, kca, kem, kre, kax, kdk⟩ : Lo)].length : Nat) : Int) 1 6 = true from by unfold btw; exact decide_eq_true (by simp; omega), List.all_append, hall, hcg, fillR_snoc, h9, fillP_snoc, h9, best_nil]
        simp [Lo.ok_iff.2 Hmok.out, Hq.out])
      clear hcg hall
      by_cases hfe : fillR ts (ls.map LoV.l) (byNeed ts) = []
      case neg =>
        have hfr : fillRes (ls.map LoV.l) ts = ([], 7) := by rw [Hfr.out, if_neg hfe]
        rw [hfr] at hpv ⊢
        obtain rfl := pks_nil hpv
        clear hpv hMv hfr hfe
        go_wp2_with fail
        refine (awake_any _).mono ?_; rintro e Wz ⟨rfl, hxz⟩
        have hbz := ext_trans hb hxz
        go_wp2
        go_ret
        exact ⟨rfl, hbz⟩
      case pos =>
      have hfr : fillRes (ls.map LoV.l) ts = (fillP ts (ls.map LoV.l) (byNeed ts), 0) := by rw [Hfr.out, if_pos hfe]
      rw [hfr] at hpv ⊢
      have Hfr3 := Lib.hid (Hfr2.out hfe)
      have Honce := Lib.hid (fill_once hfe)
      have Hord := Lib.hid (fill_order ts (ls.map LoV.l) (byNeed ts) (byNeed_sorted ts))
      have Hlan := Lib.hid (fun i (hi : i < k) => fill_lanes ts (ls.map LoV.l) (byNeed ts) i (by rw [List.length_map, Hn.out]; exact hi))
      have hsm : SmP (fillP ts (ls.map LoV.l) (byNeed ts)) := fill_small (fun l hl => by have := (Hlo2.out l hl).many; omega) (by rw [Hm.out]; omega)
      have Hsm := Lib.hid hsm
      have hFl : (fillP ts (ls.map LoV.l) (byNeed ts)).length = k := by rw [fillP_len, List.length_map, Hn.out]
      clear hfr hfe Hfr Hfr2 hsm
      generalize fillP ts (ls.map LoV.l) (byNeed ts) = FP at *
      have HFl := Lib.hid hFl
      have hvl : pv.length = k := by rw [← pks_len, hpv, hFl]
      rw [hvl]
      have Hvl := Lib.hid hvl
      have Hpv := Lib.hid hpv
      have HMv := Lib.hid hMv
      have HP := Lib.hid hP
      clear hvl hpv hMv hFl hP
      go_upto_region 11 with fail
      have Hb := Lib.hid hb
      have hwV := hb.size
      clear hb
      generalize V3 = V at *
      go_cut [10, 11] from 79 to 89 (fun v e W => e = .int .i64 0 ∧ PksV W v (FP ++ [List.replicate q []]) ∧ Below V.heap.size V W)
      case first =>
        have tail : ∀ (W : World) (G : Option Addr) (cG : Nat) (us : List LoV), us.map LoV.l = ls.map LoV.l ++ [⟨kl, kh, kca, kem, kre, kax, kdk⟩] → us.length = k + 1 → Below V.heap.size V W → LsM W G us →
            Hid (Calls Try.prog 60 #[.slice G (k + 1) cG] W fun e w' => (∃ A2 c2 ls2, e = .returned (.slice A2 (k + 1) c2) ∧ ls2.map LoV.l = us.map LoV.l ∧ LsM w' A2 ls2) ∧ Below W.heap.size W w') := fun W G cG us h1 h2 h3 h4 => Lib.hid (lorries_any G (k + 1) cG us W h2 (by omega) h4 (fun x hx => by
              have h5 : x.l ∈ ls.map LoV.l ++ [⟨kl, kh, kca, kem, kre, kax, kdk⟩] := by rw [← h1]; exact List.mem_map.2 ⟨x, hx, rfl⟩
              rcases List.mem_append.1 h5 with h6 | h6
              · have := (Hlo2.out x.l h6).many; omega
              · rw [List.mem_singleton.1 h6]; have := Hmok.out.many; omega))
        have Hmm := Lib.hid (show ((ls ++ [(⟨⟨kl, kh, kca, kem, kre, kax, kdk⟩, Kx, cK⟩ : LoV)]).map LoV.l) = ls.map LoV.l ++ [⟨kl, kh, kca, kem, kre, kax, kdk⟩] by simp)
        have Hml := Lib.hid (show (ls ++ [(⟨⟨kl, kh, kca, kem, kre, kax, kdk⟩, Kx, cK⟩ : LoV)]).length = k + 1 by simp [Hn.out])
        refine Dr.Any.wp_region_plan 14 (Dr.Any.from_ V.drew.heap.size) (.q [0, 2, 6] (.e2 1 (.e1 3 (.e1 4 (.e1 5 (.e1 7 (.e1 8 (.q [9, 10, 11, 12, 13] .done)))))) 3 (.e1 1 (.e1 4 (.e1 5 (.e1 7 (.e1 8 (.q [9, 10, 11, 12, 13] .done)))))))) (by kernel_rfl) (by kernel_rfl) ?_
        have hbY := ext_drew V
        have hMY := HM.out.ext (Hb.out.trans (hbY.mono hwV))
        have hKY := HK.out.ext (Hb.out.trans (hbY.mono hwV))
        have hPY := HP.out.ext hbY
        have hsY : V.heap.size ≤ V.drew.heap.size := hbY.size
        generalize World.drew V = Y0 at *
        have hP2 := hPY
        have u0 := Dr.Any.cls_cell (M := Dr.Any.from_ Y0.heap.size) (hP2.cell (i := 0) rfl) (by rw [Dr.Any.mem_from]; have := hP2.lt; simp only; omega)
        have u1 := Dr.Any.cls_cell (M := Dr.Any.from_ Y0.heap.size) (hP2.cell (i := 1) rfl) (by rw [Dr.Any.mem_from]; have := hP2.lt; simp only; omega)
        have u2 := Dr.Any.cls_cell (M := Dr.Any.from_ Y0.heap.size) (hP2.cell (i := 2) rfl) (by rw [Dr.Any.mem_from]; have := hP2.lt; simp only; omega)
        have u3 := Dr.Any.cls_cell (M := Dr.Any.from_ Y0.heap.size) (hP2.cell (i := 3) rfl) (by rw [Dr.Any.mem_from]; have := hP2.lt; simp only; omega)
        have u4 := Dr.Any.cls_cell (M := Dr.Any.from_ Y0.heap.size) (hP2.cell (i := 4) rfl) (by rw [Dr.Any.mem_from]; have := hP2.lt; simp only; omega)
        have u5 := Dr.Any.cls_cell (M := Dr.Any.from_ Y0.heap.size) (hP2.cell (i := 5) rfl) (by rw [Dr.Any.mem_from]; have := hP2.lt; simp only; omega)
        have u6 := Dr.Any.cls_cell (M := Dr.Any.from_ Y0.heap.size) (hP2.cell (i := 6) rfl) (by rw [Dr.Any.mem_from]; have := hP2.lt; simp only; omega)
        with_reducible refine Dr.Any.plan_q (l := [_, _, _]) (by with_unfolding_all exact rfl) (fun K hK => ?_)
        iterate 3 (go_big_quiet_step (fail))
        refine wpQuiet_nil (hK _ ?_); clear hK K
        clear u0 u1 u2 u3 u4 u5 u6 hPY hP2
        have ho0 : OwnL Y0 Y0.heap.size 37 7 LoV.enc (.slice none 0 0) ([] : List LoV) := OwnL.nil
        refine Dr.Any.plan_e2 ?_ ?_
        · refine Dr.Any.plan_e rfl (by rfl) (fun K hK => ?_)
          refine app_row_op LoV.enc 88 37 7 72 et88 (by decide) (by decide) lov_len lov_one _ _ rfl Y0.heap.size _ [] rfl ho0 A k c ls Hn.out rfl hMY.hdr (by simp; omega) (Nat.le_refl _) (fun v1 U1 hoU1 hbU1 hgU1 => ?_)
          refine hK _ _ (Dr.Any.Bel.grown hgU1 (fun k hk => (ho0.lt hk).1)) ?_; clear hK K
          go_frame
          have nw := Blk.new U1 37 [.slice Kx q cK, .int .i64 kh, .int .i64 kca, .int .i64 kem, .int .i64 kre, .int .i64 kax, .int .i64 kdk]
          have hxb := ext_alloc U1 (.cells #[.slice Kx q cK, .int .i64 kh, .int .i64 kca, .int .i64 kem, .int .i64 kre, .int .i64 kax, .int .i64 kdk] 37)
          refine Dr.Any.plan_e rfl (by rfl) (fun K hK => ?_)
          go_wp2
          refine hK _ _ (.of (ext_alloc _ _)) ?_; clear hK K
          change Blk (U1.alloc (.cells #[.slice Kx q cK, .int .i64 kh, .int .i64 kca, .int .i64 kem, .int .i64 kre, .int .i64 kax, .int .i64 kdk] 37)) _ _ _ at nw
          change Below U1.heap.size U1 (U1.alloc (.cells #[.slice Kx q cK, .int .i64 kh, .int .i64 kca, .int .i64 kem, .int .i64 kre, .int .i64 kax, .int .i64 kdk] 37)) at hxb
          generalize U1.alloc (.cells #[.slice Kx q cK, .int .i64 kh, .int .i64 kca, .int .i64 kem, .int .i64 kre, .int .i64 kax, .int .i64 kdk] 37) = U2 at *
          have ho2 := hoU1.ext hxb
          have hb2 : Below Y0.heap.size Y0 U2 := hbU1.trans (hxb.mono hbU1.size)
          have nb : U1.heap.size = U1.heap.size := rfl
          have hnc := cells_of (l := [(⟨⟨kl, kh, kca, kem, kre, kax, kdk⟩, Kx, cK⟩ : LoV)]) lov_len nw (by show [.slice Kx q cK, .int .i64 kh, .int .i64 kca, .int .i64 kem, .int .i64 kre, .int .i64 kax, .int .i64 kdk] = [Value.slice Kx kl.length cK, _, _, _, _, _, _] ++ []; rw [Hq.out]; rfl)
          refine Dr.Any.plan_e rfl (by rfl) (fun K hK => ?_)
          refine app_row_op LoV.enc 88 37 7 72 et88 (by decide) (by decide) lov_len lov_one _ _ rfl Y0.heap.size _ ([] ++ ls) rfl ho2 (some ⟨U1.heap.size, 0, none⟩) 1 1 [⟨⟨kl, kh, kca, kem, kre, kax, kdk⟩, Kx, cK⟩] rfl rfl hnc (by simp [Hn.out]; omega) hb2.size (fun v3 U3 ho3 hb3 hg3 => ?_)
          refine hK _ _ (Dr.Any.Bel.grown hg3 (fun k hk => (ho2.lt hk).1)) ?_; clear hK K
          go_frame
          rw [List.nil_append] at ho3
          obtain ⟨G, cG, eG, -, -, hcG⟩ := ho3.cells lov_len
          rw [Hml.out] at eG
          subst eG
          have hb30 : Below Y0.heap.size Y0 U3 := hb2.trans hb3
          have hM3 : LsM U3 G (ls ++ [⟨⟨kl, kh, kca, kem, kre, kax, kdk⟩, Kx, cK⟩]) := ⟨hcG, fun x hx => by
            rcases List.mem_append.1 hx with h5 | h5
            · exact (hMY.row x h5).ext hb30
            · rw [List.mem_singleton.1 h5]; exact hKY.ext hb30⟩
          have hbw3 := hbY.trans (hb30.mono hsY)
          have CL := tail U3 G cG _ Hmm.out Hml.out hbw3 hM3
          clear hnc nw ho2 hb2 hb3 hg3 ho3 hcG hM3 hb30 tail ho0 hoU1 hbU1 hgU1 hxb nb
          refine Dr.Any.plan_e rfl (by rfl) (fun K hK => ?_)
          go_wp2_with fail
          refine CL.out.mono ?_; rintro e U4 ⟨⟨A4, c4, ls4, rfl, hl4, hM4⟩, hx⟩
          refine hK _ _ (.of hx) ?_; clear hK K
          have hb4 := hbw3.trans (hx.mono hbw3.size)
          clear hx CL
          refine Dr.Any.plan_e rfl (by rfl) (fun K hK => ?_)
          go_wp2_with fail
          refine (CTh.out U4 (Hb.out.trans (hb4.mono hwV))).mono ?_; rintro e U5 ⟨⟨T5, c5, rfl, hT5⟩, hx⟩
          refine hK _ _ (.of hx) ?_; clear hK K
          have hb5 := hb4.trans (hx.mono hb4.size)
          have hM5 := hM4.ext hx
          rw [Hmm.out] at hl4
          have CF := CFi.out U5 (k + 1) A4 c4 ls4 T5 c5 _ hl4 (by simp [Hn.out]) (fun x hx => by
            rcases List.mem_append.1 hx with h5 | h5
            · exact Hlo2.out x h5
            · rw [List.mem_singleton.1 h5]; exact Hmok.out) (by omega) hM5 hT5
          rw [hl4, Hfr3.out] at CF
          replace CF := Lib.hid CF
          clear hx hM4 hM5 hT5 hl4
          refine Dr.Any.plan_e rfl (by rfl) (fun K hK => ?_)
          go_wp2_with fail
          refine CF.out.mono ?_; rintro e U6 ⟨hx, v6, rfl, hv6⟩
          refine hK _ _ (.of hx) ?_; clear hK K
          have hb6 := hb5.trans (hx.mono hb5.size)
          have HV6 := Lib.hid hv6
          clear hx CF hv6
          with_reducible refine Dr.Any.plan_q (l := [_, _, _, _, _]) (by with_unfolding_all exact rfl) (fun K hK => ?_)
          iterate 5 (go_big_quiet_step (fail))
          refine wpQuiet_nil (hK _ ?_); clear hK K
          refine Dr.Any.plan_end rfl ?_
          go_wp2
          go_meet
          case rel => exact ⟨rfl, HV6.out, hb6⟩
        · have nw := Blk.new Y0 37 [.slice Kx q cK, .int .i64 kh, .int .i64 kca, .int .i64 kem, .int .i64 kre, .int .i64 kax, .int .i64 kdk]
          have hxb := ext_alloc Y0 (.cells #[.slice Kx q cK, .int .i64 kh, .int .i64 kca, .int .i64 kem, .int .i64 kre, .int .i64 kax, .int .i64 kdk] 37)
          refine Dr.Any.plan_e rfl (by rfl) (fun K hK => ?_)
          go_wp2
          refine hK _ _ (.of (ext_alloc _ _)) ?_; clear hK K
          change Blk (Y0.alloc (.cells #[.slice Kx q cK, .int .i64 kh, .int .i64 kca, .int .i64 kem, .int .i64 kre, .int .i64 kax, .int .i64 kdk] 37)) _ _ _ at nw
          change Below Y0.heap.size Y0 (Y0.alloc (.cells #[.slice Kx q cK, .int .i64 kh, .int .i64 kca, .int .i64 kem, .int .i64 kre, .int .i64 kax, .int .i64 kdk] 37)) at hxb
          generalize Y0.alloc (.cells #[.slice Kx q cK, .int .i64 kh, .int .i64 kca, .int .i64 kem, .int .i64 kre, .int .i64 kax, .int .i64 kdk] 37) = U1 at *
          have ho1 := ho0.ext hxb
          refine Dr.Any.plan_e rfl (by rfl) (fun K hK => ?_)
          refine app_row_op LoV.enc 88 37 7 72 et88 (by decide) (by decide) lov_len lov_one _ _ rfl Y0.heap.size _ [] rfl ho1 A k c ls Hn.out rfl (hMY.hdr.ext hxb) (by simp; omega) hxb.size (fun v1 U2 ho2 hbU2 hgU2 => ?_)
          refine hK _ _ (Dr.Any.Bel.grown hgU2 (fun k hk => (ho1.lt hk).1)) ?_; clear hK K
          go_frame
          have hg2 : U1.grownBy U2 none := hgU2
          replace nw := nw.ext (show Below U1.heap.size U1 U2 from ⟨hg2.os, hg2.tape, hg2.output, hg2.size, fun k hk => hg2.block k hk (by simp)⟩)
          have hb2 : Below Y0.heap.size Y0 U2 := hxb.trans hbU2
          have hnc := cells_of (l := [(⟨⟨kl, kh, kca, kem, kre, kax, kdk⟩, Kx, cK⟩ : LoV)]) lov_len nw (by show [.slice Kx q cK, .int .i64 kh, .int .i64 kca, .int .i64 kem, .int .i64 kre, .int .i64 kax, .int .i64 kdk] = [Value.slice Kx kl.length cK, _, _, _, _, _, _] ++ []; rw [Hq.out]; rfl)
          refine Dr.Any.plan_e rfl (by rfl) (fun K hK => ?_)
          refine app_row_op LoV.enc 88 37 7 72 et88 (by decide) (by decide) lov_len lov_one _ _ rfl Y0.heap.size _ ([] ++ ls) rfl ho2 (some ⟨Y0.heap.size, 0, none⟩) 1 1 [⟨⟨kl, kh, kca, kem, kre, kax, kdk⟩, Kx, cK⟩] rfl rfl hnc (by simp [Hn.out]; omega) hb2.size (fun v3 U3 ho3 hb3 hg3 => ?_)
          refine hK _ _ (Dr.Any.Bel.grown hg3 (fun k hk => (ho2.lt hk).1)) ?_; clear hK K
          go_frame
          rw [List.nil_append] at ho3
          obtain ⟨G, cG, eG, -, -, hcG⟩ := ho3.cells lov_len
          rw [Hml.out] at eG
          subst eG
          have hb30 : Below Y0.heap.size Y0 U3 := hb2.trans hb3
          have hM3 : LsM U3 G (ls ++ [⟨⟨kl, kh, kca, kem, kre, kax, kdk⟩, Kx, cK⟩]) := ⟨hcG, fun x hx => by
            rcases List.mem_append.1 hx with h5 | h5
            · exact (hMY.row x h5).ext hb30
            · rw [List.mem_singleton.1 h5]; exact hKY.ext hb30⟩
          have hbw3 := hbY.trans (hb30.mono hsY)
          have CL := tail U3 G cG _ Hmm.out Hml.out hbw3 hM3
          clear hnc nw ho2 hb2 hb3 hg3 ho3 hcG hM3 hb30 tail ho0 ho1 hbU2 hgU2 hg2 hxb
          refine Dr.Any.plan_e rfl (by rfl) (fun K hK => ?_)
          go_wp2_with fail
          refine CL.out.mono ?_; rintro e U4 ⟨⟨A4, c4, ls4, rfl, hl4, hM4⟩, hx⟩
          refine hK _ _ (.of hx) ?_; clear hK K
          have hb4 := hbw3.trans (hx.mono hbw3.size)
          clear hx CL
          refine Dr.Any.plan_e rfl (by rfl) (fun K hK => ?_)
          go_wp2_with fail
          refine (CTh.out U4 (Hb.out.trans (hb4.mono hwV))).mono ?_; rintro e U5 ⟨⟨T5, c5, rfl, hT5⟩, hx⟩
          refine hK _ _ (.of hx) ?_; clear hK K
          have hb5 := hb4.trans (hx.mono hb4.size)
          have hM5 := hM4.ext hx
          rw [Hmm.out] at hl4
          have CF := CFi.out U5 (k + 1) A4 c4 ls4 T5 c5 _ hl4 (by simp [Hn.out]) (fun x hx => by
            rcases List.mem_append.1 hx with h5 | h5
            · exact Hlo2.out x h5
            · rw [List.mem_singleton.1 h5]; exact Hmok.out) (by omega) hM5 hT5
          rw [hl4, Hfr3.out] at CF
          replace CF := Lib.hid CF
          clear hx hM4 hM5 hT5 hl4
          refine Dr.Any.plan_e rfl (by rfl) (fun K hK => ?_)
          go_wp2_with fail
          refine CF.out.mono ?_; rintro e U6 ⟨hx, v6, rfl, hv6⟩
          refine hK _ _ (.of hx) ?_; clear hK K
          have hb6 := hb5.trans (hx.mono hb5.size)
          have HV6 := Lib.hid hv6
          clear hx CF hv6
          with_reducible refine Dr.Any.plan_q (l := [_, _, _, _, _]) (by with_unfolding_all exact rfl) (fun K hK => ?_)
          iterate 5 (go_big_quiet_step (fail))
          refine wpQuiet_nil (hK _ ?_); clear hK K
          refine Dr.Any.plan_end rfl ?_
          go_wp2
          go_meet
          case rel => exact ⟨rfl, HV6.out, hb6⟩
      case rest =>
      obtain ⟨rfl, ⟨Ax, cx, px, rfl, hpx, hMx⟩, hbx⟩ := hcut
      have hxl : px.length = k + 1 := by rw [← pks_len, hpx, List.length_append, HFl.out]; rfl
      obtain ⟨k1, hk1⟩ : ∃ k1, k1 = k + 1 := ⟨_, rfl⟩
      rw [hxl, ← hk1]
      have hne1 : ((k1 : Int) != (k : Int) + 1) = false := by rw [hk1]; simp
      have Hk1 := Lib.hid hk1
      have Hxl := Lib.hid (hxl.trans hk1.symm)
      have Hpx := Lib.hid hpx
      generalize wc = Wg at *
      have Hbg := Lib.hid (Hb.out.trans (hbx.mono hwV))
      have HMv2 := Lib.hid (HMv.out.ext hbx)
      have HMx := Lib.hid hMx
      have HM2 := Lib.hid (HM.out.ext Hbg.out)
      have Ht2 := Lib.hid (Ht.out.ext Hbg.out)
      have HNk := Lib.hid (show ∀ p ∈ FP, ∀ y ∈ p.flatten, (0 ≤ y ∧ y < m) ∧ 0 ≤ nk ts y ∧ nk ts y ≤ 1000 from fun p hp y hy => by
        obtain ⟨r, hr, hyr⟩ := List.mem_flatten.1 hy
        have h1 : y ∈ FP.flatten.flatten := List.mem_flatten.2 ⟨r, List.mem_flatten.2 ⟨p, hp, hr⟩, hyr⟩
        have h2 := mem_upto.1 (Honce.out.mem_iff.1 h1)
        have h3 := (Hok.out _ (thAt_mem h2.1 h2.2)).need
        rw [Hm.out] at h2
        exact ⟨h2, h3⟩)
      have HFF := Lib.hid (show FP.flatten.flatten.length = m by rw [Honce.out.length_eq, upto_len, Hm.out])
      have hwg : w.heap.size ≤ Wg.heap.size := Hbg.out.size
      clear hxl hk1 hpx hbx hMx Hb HMv HM Ht HK HP CTh CFi Hlo2 Hmok Hfr3 hwV
      have hmk := mk35 m (by omega)
      have hG := Blk.new Wg 3 ((tab m fun _ => 0).map (Value.int .i64))
      have hxG := ext_alloc Wg (.cells ((tab m fun _ => 0).map (Value.int .i64)).toArray 3)
      go_upto_region 15 with fail
      clear hmk hne1
      change IArr _ _ _ _ at hG
      generalize Wg.alloc (.cells ((tab m fun _ => 0).map (Value.int .i64)).toArray 3) = W2 at *
      have hG0 : IArr W2 Wg.heap.size 3 (tab m (cntL (([] : List (List Int)).flatten))) := hG
      clear hG
      generalize hGe : Wg.heap.size = G at *
      have HGe := Lib.hid hGe
      clear hGe
      go_wp2
      go_loopw [13, 14] (fun la t wr => ∃ (i : Nat) (v : Int), t = .int .i64 i ∧ i ≤ k ∧ la = .int .i64 v ∧ Hid (HiOk FP ts i v) ∧ IArr wr G 3 (tab m (cntL ((FP.take i).flatten.flatten))) ∧ Below G Wg wr) (fun _ t _ => k - (intOf t).toNat)
      case atStart => exact ⟨0, 0, rfl, by omega, rfl, Lib.hid (HiOk.start fun p hp y hy => (HNk.out p hp y hy).2.1), hG0, hxG⟩
      case round =>
        clear hG0 hxG
        obtain ⟨i, v, rfl, hi, rfl, Hhi, hG, hbr⟩ := hrel
        by_cases hli : i < k
        · have hli' : (i : Int) < (k : Int) := by omega
          have hik1 : (i : Int) < (k1 : Int) := by have := Hk1.out; omega
          have hiv : i < pv.length := by rw [Hvl.out]; exact hli
          have hix : i < px.length := by rw [Hxl.out, Hk1.out]; omega
          have hil : i < ls.length := by rw [Hn.out]; exact hli
          have hiF : i < FP.length := by rw [HFl.out]; exact hli
          have hbrG : Below Wg.heap.size Wg wr := by rw [HGe.out]; exact hbr
          have m1 := HMv2.out
          have m2 := HMx.out
          have m3 := HM2.out
          obtain ⟨bv, ov, eAv, -, c1⟩ := m1.hdr.at1 hiv rfl
          obtain ⟨bx, ox, eAx, -, c2⟩ := m2.hdr.at1 hix rfl
          obtain ⟨bl, ol, eA, -, d0, -, -, -, -, -, -⟩ := m3.hdr.at7 hil rfl
          subst eAv eAx eA
          have r1 := m1.row _ (List.getElem_mem hiv)
          have r2 := m2.row _ (List.getElem_mem hix)
          have s1 := Hsm.out.at Hpv.out (List.getElem_mem hiv)
          have hp1 : FP[i]? = some (rows pv[i].rs) := pks_get Hpv.out hiv
          have hp2 : FP[i]? = some (rows px[i].rs) := by
            have := pks_get Hpx.out hix
            rwa [List.getElem?_append_left hiF] at this
          have hln : pv[i].rs.length = ls[i].l.lanes.length := by
            have := Hlan.out i hli
            rw [List.getD_eq_getElem?_getD, List.getD_eq_getElem?_getD, hp1, List.getElem?_map, List.getElem?_eq_getElem hil] at this
            simpa [rows_len] using this
          obtain ⟨y1, hy1⟩ : ∃ y, pv[i] = y := ⟨_, rfl⟩
          obtain ⟨y2, hy2⟩ : ∃ y, px[i] = y := ⟨_, rfl⟩
          obtain ⟨y3, hy3⟩ : ∃ y, ls[i] = y := ⟨_, rfl⟩
          rw [hy1] at c1 r1 s1 hp1 hln
          rw [hy2] at c2 r2 hp2
          rw [hy3] at d0 hln
          clear hy1 hy2 hy3 m1 m2 m3
          obtain ⟨rs1, A1, k11⟩ := y1
          obtain ⟨rs2, A2', k22⟩ := y2
          obtain ⟨⟨lanes, h, ca, em, re, ax, dk⟩, xA, xc⟩ := y3
          simp only at c1 c2 d0 r1 r2 s1 hp1 hp2 hln
          have heq : rows rs1 = rows rs2 := by rw [hp1] at hp2; exact Option.some.inj hp2
          have s2 : rs2.length ≤ 1000000000 ∧ ∀ y ∈ rs2, y.r.length ≤ 1000000000 := by
            refine ⟨by rw [← rows_len, ← heq, rows_len]; exact s1.1, fun y hy => ?_⟩
            have h7 : y.r ∈ rows rs1 := by rw [heq]; exact List.mem_map.2 ⟨y, hy, rfl⟩
            obtain ⟨z, hz, e⟩ := List.mem_map.1 h7
            rw [← e]; exact s1.2 z hz
          rw [← hln] at d0
          have Hp1 := Lib.hid hp1
          have Hs1 := Lib.hid s1
          have HR1 := Lib.hid r1
          have HC1 := Lib.hid (fun W (hW : Below G Wg W) => Go.Bs.cell_ext c1 (show Below Wg.heap.size Wg W by rw [HGe.out]; exact hW))
          have HD0 := Lib.hid (fun W (hW : Below G Wg W) => Go.Bs.cell_ext d0 (show Below Wg.heap.size Wg W by rw [HGe.out]; exact hW))
          have hRx := r2
          clear hp1 hp2 hln
          go_upto_region 19 with fail
          refine Dr.wp_region_plan 24 [] (.q [0, 1, 2, 3, 4, 5, 6, 7] (.e1 8 (.q [9, 10, 11, 12, 13, 14, 15, 16, 17, 18, 19, 20, 21, 22, 23] .done))) (by kernel_rfl) (by kernel_rfl) ?_
          have hGw : G ≤ wr.heap.size := by have := hbrG.size; have := HGe.out; omega
          have hbd := hbr.trans ((ext_drew wr).mono hGw)
          have hGd : IArr wr.drew G 3 (tab m (cntL ((FP.take i).flatten.flatten))) := IArr.ext hG (ext_drew wr)
          have hbdG : Below Wg.heap.size Wg wr.drew := by rw [HGe.out]; exact hbd
          have CS := same_any A1 A2' rs1.length rs2.length k11 k22 rs1 rs2 wr.drew rfl rfl s1.1 s2.1 (r1.ext hbdG) (r2.ext hbdG) s1.2 s2.2
          rw [decide_eq_true heq] at CS
          replace CS := Lib.hid CS
          have q1 := Dr.cell0 (Go.Bs.cell_ext c1 hbdG)
          have q2 := Dr.cell0 (Go.Bs.cell_ext c2 hbdG)
          clear c1 c2 d0 r1 r2 s1 s2 heq hbr hbrG hG hbdG hGw hRx
          generalize World.drew wr = Y at *
          with_reducible refine Dr.plan_q (l := [_, _, _, _, _, _, _, _]) (by with_unfolding_all exact rfl) (fun K hK => ?_)
          iterate 8 (go_big_quiet_step (fail))
          refine wpQuiet_nil (hK _ ?_); clear hK K
          clear q1 q2
          refine Dr.plan_e rfl (by rfl) (fun K hK => ?_)
          go_wp2_with fail
          refine CS.out.mono ?_; rintro e Y2 ⟨rfl, hx⟩
          refine hK _ _ (.of hx) ?_; clear hK K
          have hGY : G ≤ Y.heap.size := by have := hbd.size; have := HGe.out; omega
          have hbn := hbd.trans (hx.mono hGY)
          have hGn : IArr Y2 G 3 (tab m (cntL ((FP.take i).flatten.flatten))) := IArr.ext hGd hx
          clear CS hx hbd hGd hGY
          have q1 := Dr.cell0 (HC1.out _ hbn)
          have q2 := Dr.cell0 (HD0.out _ hbn)
          with_reducible refine Dr.plan_q (l := [_, _, _, _, _, _, _, _, _, _, _, _, _, _, _]) (by with_unfolding_all exact rfl) (fun K hK => ?_)
          iterate 15 (go_big_quiet_step (fail))
          refine wpQuiet_nil (hK _ ?_); clear hK K
          clear q1 q2
          refine Dr.plan_end rfl ?_
          obtain ⟨p, hp⟩ : ∃ p, rows rs1 = p := ⟨_, rfl⟩
          have hnr : rs1.length = p.length := by rw [← hp, rows_len]
          have Hnr := Lib.hid hnr
          have Hp := Lib.hid hp
          have Hpi := Lib.hid (show FP[i]? = some p by rw [Hp1.out, hp])
          have hpm : p ∈ FP := List.mem_of_getElem? Hpi.out
          have Hpm := Lib.hid hpm
          have hsml := Hsm.out p hpm
          have hnr100 : rs1.length ≤ 100 := by rw [hnr]; exact hsml.1
          have Hrl := Lib.hid hsml.2
          have HpF := Lib.hid (show ∃ h2 : i < FP.length, FP[i] = p from List.getElem?_eq_some_iff.1 Hpi.out)
          have HS1 := Lib.hid (show FP.flatten.flatten.length = ((FP.take i).flatten.flatten).length + p.flatten.length + ((FP.drop (i + 1)).flatten.flatten).length by
            obtain ⟨h2, h3⟩ := HpF.out
            have h4 := flat_split FP h2
            rw [h3] at h4
            conv => lhs; rw [h4]
            simp only [List.flatten_append, List.length_append]
            omega)
          have HSn := Lib.hid (show (FP.take (i + 1)).flatten.flatten = (FP.take i).flatten.flatten ++ p.flatten by
            obtain ⟨h2, h3⟩ := HpF.out
            rw [flat_snoc' FP h2, h3, List.flatten_append])
          generalize hSe : (FP.take i).flatten.flatten = S0 at *
          generalize hnre : rs1.length = nr at *
          have Hnre := Lib.hid hnre
          have hS0 : S0.length ≤ m := by have := HS1.out; rw [HFF.out] at this; omega
          clear hp hnr hpm hsml hSe hnre Hp1
          generalize Y2 = Y3 at *
          go_upto_block 4 with fail
          go_cut [15] from 141 to 201 (fun hh W => ∃ v2 : Int, hh = .int .i64 v2 ∧ Hid (HiOk FP ts (i + 1) v2) ∧ IArr W G 3 (tab m (cntL (S0 ++ p.flatten))) ∧ Below G Wg W)
          case first =>
            go_wp2
            go_loopw [15, 16] (fun hh t wr => ∃ (j : Nat) (v2 : Int), t = .int .i64 j ∧ j ≤ nr ∧ hh = .int .i64 v2 ∧ Hid (HiOk FP ts (i + 1) v2) ∧ IArr wr G 3 (tab m (cntL (S0 ++ (p.take j).flatten))) ∧ Below G Wg wr) (fun _ t _ => nr - (intOf t).toNat)
            case atStart => exact ⟨0, v, rfl, by omega, rfl, Lib.hid (Hhi.out.mono (by omega)), by simpa using hGn, hbn⟩
            case round =>
              clear hGn hbn
              obtain ⟨j, v2, rfl, hj, rfl, Hh2, hG, hbr⟩ := hrel
              have cH := HC1.out _ hbr
              by_cases hlj : j < nr
              · have hlj' : (j : Int) < (nr : Int) := by omega
                have hjr : j < rs1.length := by rw [Hnre.out]; exact hlj
                have hjp : j < p.length := by rw [← Hnr.out]; exact hlj
                obtain ⟨br, orr, eA1, -, e1⟩ := HR1.out.hdr.at1 hjr rfl
                have rr := HR1.out.row _ (List.getElem_mem hjr)
                have Hrow := Lib.hid (show p[j] = rs1[j].r by
                  obtain ⟨h2, h3⟩ := rows_get Hp.out hjr
                  exact h3)
                obtain ⟨y1, hy1⟩ : ∃ y, rs1[j] = y := ⟨_, rfl⟩
                rw [hy1] at e1 rr Hrow
                obtain ⟨rl, rA, rc⟩ := y1
                simp only at e1 rr Hrow
                clear hy1
                subst eA1
                have HE1 := Lib.hid (fun W (hW : Below G Wg W) => Go.Bs.cell_ext e1 (show Below Wg.heap.size Wg W by rw [HGe.out]; exact hW))
                have HRR := Lib.hid (fun W (hW : Below G Wg W) => rr.ext (show Below Wg.heap.size Wg W by rw [HGe.out]; exact hW))
                have hrl : rl.length ≤ 100 := by rw [← Hrow.out]; exact Hrl.out _ (List.getElem_mem hjp)
                have HS2 := Lib.hid (show p.flatten.length = ((p.take j).flatten).length + rl.length + ((p.drop (j + 1)).flatten).length by
                  have h4 := flat_split p hjp
                  rw [Hrow.out] at h4
                  conv => lhs; rw [h4]
                  simp only [List.length_append]
                  omega)
                have HSn2 := Lib.hid (show S0 ++ (p.take (j + 1)).flatten = (S0 ++ (p.take j).flatten) ++ rl by
                  rw [flat_snoc' p hjp, Hrow.out, List.append_assoc])
                have hS1 : (S0 ++ (p.take j).flatten).length + rl.length ≤ m := by
                  have h1 := HS1.out
                  rw [HFF.out] at h1
                  have h2 := HS2.out
                  rw [List.length_append]
                  omega
                have Hmem := Lib.hid (show ∀ x ∈ rl, x ∈ p.flatten from fun x hx => List.mem_flatten.2 ⟨p[j], List.getElem_mem hjp, by rw [Hrow.out]; exact hx⟩)
                have HrA := Lib.hid (show (S0 ++ (p.take j).flatten).length + rl.length ≤ m from hS1)
                clear hS1 e1 rr
                generalize S0 ++ (p.take j).flatten = S2 at *
                generalize hrle : rl.length = en at *
                have Hen := Lib.hid hrle
                clear hrle
                generalize wr = w4 at *
                go_upto_region 25 with fail
                clear cH
                go_wp2
                go_loopw [15, 17] (fun hh t wr => ∃ (e : Nat) (v2 : Int), t = .int .i64 e ∧ e ≤ en ∧ hh = .int .i64 v2 ∧ Hid (HiOk FP ts (i + 1) v2) ∧ IArr wr G 3 (tab m (cntL (S2 ++ rl.take e))) ∧ Below G Wg wr) (fun _ t _ => en - (intOf t).toNat)
                case atStart => exact ⟨0, v2, rfl, by omega, rfl, Hh2, by simpa using hG, hbr⟩
                case round =>
                  clear hG hbr Hh2
                  obtain ⟨e, v3, rfl, he, rfl, Hh3, hG, hbr⟩ := hrel
                  have cH := HC1.out _ hbr
                  have cE := HE1.out _ hbr
                  by_cases hle : e < en
                  · have hle' : (e : Int) < (en : Int) := by omega
                    have her : e < rl.length := by rw [Hen.out]; exact hle
                    have hRw := HRR.out _ hbr
                    obtain ⟨bw, ow, eRA, -, f1⟩ := hRw.at1 her rfl
                    have hxm := Hmem.out _ (List.getElem_mem her)
                    have hxn := HNk.out p Hpm.out _ hxm
                    have Hlast := Lib.hid (Hhi.out.2.2 i p (Nat.le_refl _) Hpi.out _ hxm)
                    have Hup := Lib.hid (Hh3.out.up Hord.out Hpi.out hxm hxn.2.2)
                    have Hts := Lib.hid (show rl.take (e + 1) = rl.take e ++ [rl[e]] from List.take_succ_eq_append_getElem her)
                    obtain ⟨x, hx⟩ : ∃ x, rl[e] = x := ⟨_, rfl⟩
                    rw [hx] at f1 hxm hxn Hlast Hup Hts
                    clear hx
                    subst eRA
                    obtain ⟨z, rfl⟩ : ∃ z : Nat, x = z := ⟨x.toNat, by omega⟩
                    have hzm : z < m := by omega
                    have hzm' : (z : Int) < (m : Int) := by omega
                    have hz0 : ¬ (z : Int) < 0 := by omega
                    have hzt : z < ts.length := by rw [Hm.out]; exact hzm
                    have hz2 : ¬ (m : Int) ≤ (z : Int) := by omega
                    obtain ⟨bt, ot, eT, -, -, -, -, t3⟩ := (Ht2.out.ext (show Below Wg.heap.size Wg wr by rw [HGe.out]; exact hbr)).at4 hzt rfl
                    subst eT
                    have hnk : nk ts (z : Int) = ts[z].need := by unfold nk; rw [thAt_eq hzt]
                    rw [hnk] at Hlast Hup
                    have hng : ¬ ts[z].need < v := by have := Hlast.out; omega
                    have cG := hG.cell (tab_get (cntL (S2 ++ rl.take e)) hzm)
                    have fG := hG.free z
                    have hG2 := hG.set z (cntL (S2 ++ rl.take e) z + 1)
                    rw [tab_set, cntL_snoc, List.append_assoc, ← Hts.out] at hG2
                    have hcb := cntL_bd (S2 ++ rl.take e) z
                    have hcl : (S2 ++ rl.take e).length ≤ 20 := by
                      have h1 := HrA.out
                      have h2 : (rl.take e).length ≤ rl.length := by rw [List.length_take]; omega
                      rw [List.length_append]
                      rw [Hen.out] at h2
                      omega
                    have hbr2 : Below G Wg (wr.setCell ⟨G, z, none⟩ (.int .i64 (cntL (S2 ++ rl.take e) z + 1))) := hbr.setCell (p := ⟨G, z, none⟩) (Nat.le_refl _) _
                    have hGlr := Go.Wg.IArr.lt' hG
                    have HG2 := Lib.hid hG2
                    have hn1 := hxn.2
                    rw [hnk] at hn1
                    clear hG hxm hxn hnk hRw hG2 Hts Hlast
                    generalize cntL (S2 ++ rl.take e) z = y at *
                    generalize ts[z].need = nd at *
                    have hyb : 0 ≤ y ∧ y ≤ 20 := by omega
                    obtain ⟨mx, hmx⟩ : ∃ mx, max v3 nd = mx := ⟨_, rfl⟩
                    rw [hmx] at Hup
                    have HmX := Lib.hid hmx
                    clear hcb hcl
                    go_wp2
                    generalize World.setCell _ ⟨G, z, none⟩ (.int .i64 (y + 1)) = W9 at *
                    go_roundw
                    case rel => exact ⟨e + 1, mx, by go_num, by omega, by rfl, Hup, HG2.out, hbr2⟩
                    case measure => simp [intOf]; omega
                  · obtain rfl : e = en := by omega
                    rw [List.take_of_length_le (by rw [Hen.out]; exact Nat.le_refl _), ← HSn2.out] at hG
                    have HGx := Lib.hid hG
                    clear hG
                    go_wp2
                    go_roundw
                    case rel => exact ⟨j + 1, v3, by go_num, by omega, rfl, Hh3, HGx.out, hbr⟩
                    case measure => simp [intOf]; omega
              · obtain rfl : j = nr := by omega
                rw [List.take_of_length_le (by rw [← Hnr.out]; exact Nat.le_refl _)] at hG
                have HGx := Lib.hid hG
                clear hG
                go_wp2
                go_meet
                case rel => exact ⟨v2, rfl, Hh2, HGx.out, hbr⟩
          case rest =>
            obtain ⟨v2, rfl, Hh2, hG2, hb2⟩ := hcut
            rw [← HSn.out] at hG2
            have HG2 := Lib.hid hG2
            clear hG2 hGn hbn
            go_wp2
            go_roundw
            case rel => exact ⟨i + 1, v2, by go_num, by omega, rfl, Hh2, HG2.out, hb2⟩
            case measure => simp [intOf]; omega
        · obtain rfl : i = k := by omega
          have htF : FP.take i = FP := List.take_of_length_le (by rw [HFl.out]; exact Nat.le_refl _)
          rw [htF] at hG
          have Hc := Lib.hid (show ∀ z, z < m → cntL FP.flatten.flatten z = 1 from fun z hz => by
            unfold cntL
            rw [Honce.out.count_eq, upto_count (mem_upto.2 ⟨by omega, by rw [Hm.out]; omega⟩)]; rfl)
          generalize cntL FP.flatten.flatten = f at *
          have hix : i < px.length := by rw [Hxl.out, Hk1.out]; omega
          have hik1 : (i : Int) < (k1 : Int) := by have := Hk1.out; omega
          have hbrG : Below Wg.heap.size Wg wr := by rw [HGe.out]; exact hbr
          have m2 := HMx.out.ext hbrG
          obtain ⟨bx, ox, eAx, -, c2⟩ := m2.hdr.at1 hix rfl
          subst eAx
          have r2 := m2.row _ (List.getElem_mem hix)
          have hp2 : rows px[i].rs = List.replicate q [] := by
            have := pks_get Hpx.out hix
            rw [List.getElem?_append_right (by rw [HFl.out]; exact Nat.le_refl _), HFl.out, Nat.sub_self] at this
            exact (Option.some.inj this).symm
          obtain ⟨y2, hy2⟩ : ∃ y, px[i] = y := ⟨_, rfl⟩
          rw [hy2] at c2 r2 hp2
          clear hy2 m2 htF
          obtain ⟨rs2, A2', k22⟩ := y2
          simp only at c2 r2 hp2
          have hrq : rs2.length = q := by rw [← rows_len, hp2, List.length_replicate]
          rw [hrq] at c2
          have Hrq := Lib.hid hrq
          have Hemp := Lib.hid (show ∀ x ∈ rs2, x.r.length = 0 from fun x hx => by
            have h7 : x.r ∈ rows rs2 := List.mem_map.2 ⟨x, hx, rfl⟩
            rw [hp2] at h7
            rw [(List.mem_replicate.1 h7).2]; rfl)
          have HR2 := Lib.hid r2
          have hbf := Hbg.out.trans (hbr.mono (by have := HGe.out; omega))
          have Hbf := Lib.hid hbf
          clear hp2 hrq r2 hbf hbr hbrG
          generalize wr = W5 at *
          go_upto_region 34 with fail
          go_wp2
          go_loop [19] (fun t => ∃ z : Nat, t = .int .i64 z ∧ z ≤ m) (fun t => m - (intOf t).toNat)
          case atStart => exact ⟨0, rfl, by omega⟩
          case round =>
            obtain ⟨z, rfl, hz⟩ := hrel
            by_cases hlz : z < m
            · have hlz' : (z : Int) < (m : Int) := by omega
              have cG := hG.cell (tab_get f hlz)
              rw [Hc.out z hlz] at cG
              go_wp2
              go_round
              case rel => exact ⟨z + 1, by go_num, by omega⟩
              case measure => simp [intOf]; omega
            · obtain rfl : z = m := by omega
              clear hG
              go_upto_region 39 with fail
              go_wp2
              go_loop [20] (fun t => ∃ y : Nat, t = .int .i64 y ∧ y ≤ q) (fun t => q - (intOf t).toNat)
              case atStart => exact ⟨0, rfl, by omega⟩
              case round =>
                obtain ⟨y, rfl, hy⟩ := hrel
                by_cases hly : y < q
                · have hly' : (y : Int) < (q : Int) := by omega
                  have hyr : y < rs2.length := by rw [Hrq.out]; exact hly
                  obtain ⟨br, orr, eA2, -, e1⟩ := HR2.out.hdr.at1 hyr rfl
                  have he0 := Hemp.out _ (List.getElem_mem hyr)
                  rw [he0] at e1
                  generalize rs2[y].A = A9 at *
                  generalize rs2[y].c = c9 at *
                  clear he0
                  subst eA2
                  go_wp2
                  go_round
                  case rel => exact ⟨y + 1, by go_num, by omega⟩
                  case measure => simp [intOf]; omega
                · obtain rfl : y = q := by omega
                  have hb := Hbf.out
                  go_wp2_with fail
                  refine (awake_any _).mono ?_; rintro e Wz ⟨rfl, hxz⟩
                  have hbz := ext_trans hb hxz
                  go_wp2
                  go_ret
                  exact ⟨rfl, hbz⟩
end Go.Proofs.Ytbpmfaibcibleaa

/- The law WagonTrains returns true for every argument, and leaves all as they were. No condition. -/
namespace Go.Proofs.Ytbpmfaibcibleaa
open Go.ChangeShapes Go.WideShapes Go.ChangeAt Go.RowKit Go.Joins Go.Bs Go.Wg

set_option maxRecDepth 100000 in
theorem wagonTrains_lifted (os : Os) (started : os.Started) (H : Type) (enc : TypeId × Value → H) :
    ReturnsInHanded {} Try.checked os 15 .any (Rows.wagonTrainsSpec.pre6 enc Try.prog Try.f15 Rows.wagonTrainsRow.domain false) (Rows.wagonTrainsSpec.post enc Try.prog Try.f15 false true false false) := by
  refine returnsInHanded_of_change (C := Try.checked) ownK started (by kernel_rfl) Try.func15
    (ChangeSpec.witness6 (enc := enc) (C := Try.checked) false ⟨#[], #[.slice none 0 0, .slice none 0 0, .agg #[.slice none 0 0, .int .i64 0, .int .i64 0, .int .i64 0, .int .i64 0, .int .i64 0, .int .i64 0]], []⟩ 8 (by kernel_rfl) (by kernel_rfl) (by kernel_rfl) (by kernel_rfl)) ?_
  intro W base args ds gs before hval0 hW hcnd _
  have hval : ∀ (j : Nat) t v, Try.f15.params[j]? = some t → args[j]? = some v → Value.okWide Try.prog W .any base t v := hval0
  have hW' := hW
  obtain ⟨p, q, hT0, hV, rfl, hfz, hnd⟩ := hW
  have hA : DataW.TrodAll enc Try.prog W 0 (fun _ => true) true Try.f15.params.toList args.toList ds p := hT0
  rw [Try.params15] at hA hval
  obtain ⟨v0, vs0, d0, ds0, p0, q0, hargs, rfl, rfl, h0, r0⟩ := trodAll_cons hA
  obtain ⟨v1, vs1, d1, ds1, p1, q1, rfl, rfl, rfl, h1, r1⟩ := trodAll_cons r0
  obtain ⟨v2, vs2, d2, ds2, p2, q2, rfl, rfl, rfl, h2, r2⟩ := trodAll_cons r1
  obtain ⟨rfl, rfl, rfl⟩ := trodAll_nil r2
  obtain rfl : args = #[v0, v1, v2] := by cases args; simp_all
  obtain ⟨rfl, rfl⟩ := trodVars_none hV
  have k0 := h0
  have lt0 : ∀ x ∈ p0, x.block < W.heap.size := by obtain ⟨m, hm⟩ := k0; exact DataW.trod_lt m _ _ _ hm
  have k1 := h1
  have lt1 : ∀ x ∈ p1, x.block < W.heap.size := by obtain ⟨m, hm⟩ := k1; exact DataW.trod_lt m _ _ _ hm
  have k2 := h2
  have lt2 : ∀ x ∈ p2, x.block < W.heap.size := by obtain ⟨m, hm⟩ := k2; exact DataW.trod_lt m _ _ _ hm
  obtain ⟨A0, n0, c0, ls0, rfl, hl0, hlc0, hm0, hM0, hll0⟩ := lorries_arg (hval 0 88 v0 rfl rfl) h0
  obtain ⟨A1, n1, c1, l1, rfl, hl1, hlc1, hm1, hc1⟩ := things_arg (hval 1 38 v1 rfl rfl) h1
  obtain ⟨A2, n2, c2, l2, h_2, ca2, em2, re2, ax2, dk2, rfl, hl2, hlc2, hm2, hc2⟩ := lorry_arg (hval 2 37 v2 rfl rfl) h2
  clear hT0 hval0
  refine (trains_law A0 n0 c0 ls0 A1 n1 c1 l1 A2 n2 c2 h_2 ca2 em2 re2 ax2 dk2 l2 _ hl0 hm0 hM0 hll0 hl1 hm1 hc1 hl2 hm2 hc2).mono fun e W' ⟨he, bel⟩ => ?_
  subst he
  exact ⟨_, rfl, _, _, _, [], _, [], hW', trodAll_mk1 (shut_bool Try.underlying4 _), (trodAll_cons_mk (Below.trod laidK (by kernel_rfl) (of_decide_eq_true (by kernel_rfl)) k0 bel lt0) (trodAll_cons_mk (Below.trod laidK (by kernel_rfl) (of_decide_eq_true (by kernel_rfl)) k1 bel lt1) (trodAll_cons_mk (Below.trod laidK (by kernel_rfl) (of_decide_eq_true (by kernel_rfl)) k2 bel lt2) trodAll_mk0))), rfl, bel.frame _, fun h => by cases h⟩

theorem wagonTrains : Rows.WagonTrainsSaid :=
  OpenClaim.holds_of_wide 15 Try.f15 rfl rfl rfl rfl rfl rfl rfl ⟨rfl, rfl, rfl, rfl, rfl⟩ rfl rfl rfl rfl rfl (by kernel_rfl) Try.func15 (by kernel_rfl)
    (of_decide_eq_true (by kernel_rfl)) (by unfold Func.isWrapper; first | (rw [if_pos (by decide +kernel)]; kernel_rfl) | (rw [if_neg (by decide +kernel)]; exact ⟨rfl, rfl⟩))
    (fun os started H enc _ => wagonTrains_lifted os started H enc)
#print axioms wagonTrains
end Go.Proofs.Ytbpmfaibcibleaa

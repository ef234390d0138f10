/- The law WagonOut: its walk. (Printed by mk_outa.py.) -/
import Derived.Test.YtbpmfaibcibleaaLawA
import Derived.Test.YtbpmfaibcibleaaLhpN
import Derived.Test.YtbpmfaibcibleaaOutQ
namespace Go.Proofs.Ytbpmfaibcibleaa
open Go.RowKit Go.Bs Go.Wg Go.Pl Go.Sort
theorem flat_of_rows {a b : List RwV} (h : rows a = rows b) {N : Nat} (hb : (rows b).flatten.length ≤ N) : (rows a).flatten.length ≤ N := by rw [h]; exact hb
theorem rightC (A : Option Addr) (c : Nat) (h ca em re ax dk : Int) (l : List Int) (T : Option Addr) (cT : Nat) (ts : List Th) (R : Option Addr) (cR : Nat) (rs : List RwV) (P : List (List Int)) (V : World) (hl : l.length ≤ 1000000) (hm : ts.length ≤ 1000000) (hk : rs.length ≤ 1000000) (hF : (rows rs).flatten.length ≤ 1000000) (hA : Cells V A 1 Go.Bs.encI l) (hT : Cells V T 4 Th.enc ts) (hM : RwM V R rs) (hP : rows rs = P) :
    Calls Try.prog 35 #[.agg #[.slice A l.length c, .int .i64 h, .int .i64 ca, .int .i64 em, .int .i64 re, .int .i64 ax, .int .i64 dk], .slice T ts.length cT, .slice R rs.length cR] V fun e w' => e = .returned (.bool (rightE ⟨l, h, ca, em, re, ax, dk⟩ ts P)) ∧ Below V.heap.size V w' := by
  rw [← hP]
  exact Right_any ⟨⟨⟨l, h, ca, em, re, ax, dk⟩, A, c⟩, T, cT⟩ ts R rs.length cR rs V (by simp only; omega) (by omega) hA hT rfl (by omega) hM hF
theorem loadC (A : Option Addr) (c : Nat) (h ca em re ax dk : Int) (l : List Int) (T : Option Addr) (cT : Nat) (ts : List Th) (R : Option Addr) (cR : Nat) (rs : List RwV) (P : List (List Int)) (V : World) (hl : l.length ≤ 1000000) (hm : ts.length ≤ 1000000) (hk : rs.length ≤ 1000000) (hF : (rows rs).flatten.length ≤ 1000000) (hA : Cells V A 1 Go.Bs.encI l) (hT : Cells V T 4 Th.enc ts) (hM : RwM V R rs) (hP : rows rs = P) :
    Calls Try.prog 39 #[.agg #[.slice A l.length c, .int .i64 h, .int .i64 ca, .int .i64 em, .int .i64 re, .int .i64 ax, .int .i64 dk], .slice T ts.length cT, .slice R rs.length cR] V fun e w' => e = .returned (.bool (loadE ⟨l, h, ca, em, re, ax, dk⟩ ts P)) ∧ Below V.heap.size V w' := by
  rw [← hP]
  exact Loadable_any ⟨⟨⟨l, h, ca, em, re, ax, dk⟩, A, c⟩, T, cT⟩ ts R rs.length cR rs V (by simp only; omega) (by omega) hA hT rfl (by omega) hM hF
theorem packRes_rows {j : Lo} {ts : List Th} {ld : Bool} (h : checkE j ts = 0) : (packRes j ts ld).1.length ≤ 6 ∧ ∀ l ∈ (packRes j ts ld).1, l.length ≤ 1000 := by
  obtain ⟨hj, h14, -⟩ := checkE_zero.1 h
  unfold packRes
  rw [if_neg (not_not_intro h)]
  cases hp : packL j ts (upto ts.length) ld with
  | none => simp
  | some P =>
    unfold packL at hp
    split at hp
    · obtain ⟨q, -, rfl⟩ := Option.map_eq_some_iff.1 hp
      refine ⟨by have := hj.many; simp only [laid, List.length_map, List.length_range]; omega, fun l hl => ?_⟩
      simp only [laid, List.mem_map] at hl
      obtain ⟨i, -, rfl⟩ := hl
      have h1 := (sortL_perm (needC ts) (Wg.part (upto ts.length) q i)).length_eq
      have h2 : (Wg.part (upto ts.length) q i).length ≤ (upto ts.length).length := by
        unfold Wg.part
        rw [List.length_map]
        exact Nat.le_trans (List.length_filter_le _ _) (by rw [List.length_zip]; omega)
      rw [upto_len] at h2
      omega
    · cases hp
theorem sz35 : ∀ w, (sizeOf 3).run Try.prog w = .ok 1 w := fun w => by kernel_rfl
set_option maxRecDepth 100000 in
set_option maxHeartbeats 8000000 in
theorem out_law (A : Option Addr) (n c : Nat) (h ca em re ax dk : Int) (l : List Int) (T : Option Addr) (m cT : Nat) (ts : List Th) (ld : Bool) (w : World) (hn : l.length = n) (hn0 : n ≤ 9223372036854775807) (hd : Cells w A 1 Go.Bs.encI l) (hm : ts.length = m) (hm0 : m ≤ 9223372036854775807) (ht : Cells w T 4 Th.enc ts) :
    Calls Try.prog 7 #[.agg #[.slice A n c, .int .i64 h, .int .i64 ca, .int .i64 em, .int .i64 re, .int .i64 ax, .int .i64 dk], .slice T m cT, .bool ld] w fun e w' => e = .returned (.bool true) ∧ Below w.heap.size w w' := by
  subst hn hm
  have CV := Lib.hid (fun V (hV : Below w.heap.size w V) => validC A c h ca em re ax dk l T cT ts V hn0 hm0 (hd.ext hV) (ht.ext hV))
  generalize hb1 : decide (checkE ⟨l, h, ca, em, re, ax, dk⟩ ts = 0) = b1 at *
  have Hb1 := Lib.hid hb1
  have Hd := Lib.hid hd
  have Ht := Lib.hid ht
  clear hb1 hd ht
  have hb := ext_alloc w (.cells #[.slice A l.length c, .int .i64 h, .int .i64 ca, .int .i64 em, .int .i64 re, .int .i64 ax, .int .i64 dk] 37)
  have hP := Blk.new w 37 [.slice A l.length c, .int .i64 h, .int .i64 ca, .int .i64 em, .int .i64 re, .int .i64 ax, .int .i64 dk]
  go_enter Try.func7, Try.ntmps7
  go_upto_region 1 with fail
  change Blk (w.alloc (.cells #[.slice A l.length c, .int .i64 h, .int .i64 ca, .int .i64 em, .int .i64 re, .int .i64 ax, .int .i64 dk] 37)) _ _ _ at hP
  change Below w.heap.size w (w.alloc (.cells #[.slice A l.length c, .int .i64 h, .int .i64 ca, .int .i64 em, .int .i64 re, .int .i64 ax, .int .i64 dk] 37)) at hb
  generalize w.alloc (.cells #[.slice A l.length c, .int .i64 h, .int .i64 ca, .int .i64 em, .int .i64 re, .int .i64 ax, .int .i64 dk] 37) = W0 at *
  have q0 : W0.cell? ⟨w.heap.size, 0, none⟩ = _ := hP.cell rfl
  have q1 : W0.cell? ⟨w.heap.size, 1, none⟩ = _ := hP.cell rfl
  have q2 : W0.cell? ⟨w.heap.size, 2, none⟩ = _ := hP.cell rfl
  have q3 : W0.cell? ⟨w.heap.size, 3, none⟩ = _ := hP.cell rfl
  have q4 : W0.cell? ⟨w.heap.size, 4, none⟩ = _ := hP.cell rfl
  have q5 : W0.cell? ⟨w.heap.size, 5, none⟩ = _ := hP.cell rfl
  have q6 : W0.cell? ⟨w.heap.size, 6, none⟩ = _ := hP.cell rfl
  go_wp2_with fail
  refine (CV.out _ hb).mono ?_; rintro e W1 ⟨rfl, hx⟩
  replace hb := ext_trans hb hx
  replace hP := hP.ext hx
  clear hx CV
  clear q0 q1 q2 q3 q4 q5 q6
  cases b1
  · go_wp2_with fail
    refine (awake_any _).mono ?_; rintro e Wz ⟨rfl, hx⟩
    replace hb := ext_trans hb hx
    go_wp2
    go_ret
    exact ⟨rfl, hb⟩
  have h0 := of_decide_eq_true Hb1.out
  obtain ⟨hlo, h14, hok⟩ := checkE_zero.1 h0
  have hlm := hlo.many
  simp only at hlm
  have CL := Lib.hid (fun V (hV : Below w.heap.size w V) => lorryC A c h ca em re ax dk l V (by omega) (Hd.out.ext hV))
  have CTh := Lib.hid (fun V (hV : Below w.heap.size w V) => thingsC T cT ts V (by omega) (Ht.out.ext hV))
  have CPa := Lib.hid (fun V (A1 : Option Addr) (d1 : Nat) (T1 : Option Addr) (e1 : Nat) (h6 : Cells V A1 1 Go.Bs.encI l) (h7 : Cells V T1 4 Th.enc ts) => Pack_any ⟨⟨⟨l, h, ca, em, re, ax, dk⟩, A1, d1⟩, T1, e1⟩ ts V (by simp only; omega) (by omega) h6 h7)
  have CLo := Lib.hid (fun V (A1 : Option Addr) (d1 : Nat) (T1 : Option Addr) (e1 : Nat) (h6 : Cells V A1 1 Go.Bs.encI l) (h7 : Cells V T1 4 Th.enc ts) => Load_any ⟨⟨⟨l, h, ca, em, re, ax, dk⟩, A1, d1⟩, T1, e1⟩ ts V (by simp only; omega) (by omega) h6 h7)
  unfold LoV.val at CPa CLo
  unfold PcR at CPa CLo
  simp only at CPa CLo
  have q0 : W1.cell? ⟨w.heap.size, 0, none⟩ = _ := hP.cell rfl
  have q1 : W1.cell? ⟨w.heap.size, 1, none⟩ = _ := hP.cell rfl
  have q2 : W1.cell? ⟨w.heap.size, 2, none⟩ = _ := hP.cell rfl
  have q3 : W1.cell? ⟨w.heap.size, 3, none⟩ = _ := hP.cell rfl
  have q4 : W1.cell? ⟨w.heap.size, 4, none⟩ = _ := hP.cell rfl
  have q5 : W1.cell? ⟨w.heap.size, 5, none⟩ = _ := hP.cell rfl
  have q6 : W1.cell? ⟨w.heap.size, 6, none⟩ = _ := hP.cell rfl
  go_wp2_with fail
  refine (CL.out _ hb).mono ?_; rintro e V1 ⟨⟨A1, d1, rfl, hA1⟩, hx⟩
  replace hb := ext_trans hb hx
  replace hP := hP.ext hx
  clear hx
  clear q0 q1 q2 q3 q4 q5 q6
  go_wp2_with fail
  refine (CTh.out _ hb).mono ?_; rintro e V2 ⟨⟨T1, e1, rfl, hT1⟩, hx⟩
  replace hb := ext_trans hb hx
  replace hP := hP.ext hx
  replace hA1 := hA1.ext hx
  clear hx
  go_wp2_with fail
  refine (CPa.out _ A1 d1 T1 e1 hA1 hT1).mono ?_; rintro e V3 ⟨hx, v1, rfl, ⟨Ap0, cp0, rp0, rfl, hrp0, hMp0, -, -⟩⟩
  replace hb := ext_trans hb hx
  replace hP := hP.ext hx
  clear hx hA1 hT1 CPa
  go_upto_if 31 with fail
  go_cut [7, 8] (fun v e W => (∃ Ap cp rp, v = .slice Ap rp.length cp ∧ rows rp = (packRes ⟨l, h, ca, em, re, ax, dk⟩ ts ld).1 ∧ RwM W Ap rp) ∧ e = .int .i64 (packRes ⟨l, h, ca, em, re, ax, dk⟩ ts ld).2 ∧ Below w.heap.size w W ∧ Blk W w.heap.size 37 [.slice A l.length c, .int .i64 h, .int .i64 ca, .int .i64 em, .int .i64 re, .int .i64 ax, .int .i64 dk])
  case first =>
    cases ld
    · go_wp2
      go_meet
      case rel => exact ⟨⟨Ap0, cp0, rp0, rfl, hrp0, hMp0⟩, rfl, hb, hP⟩
    · clear hrp0 hMp0
      have q0 : V3.cell? ⟨w.heap.size, 0, none⟩ = _ := hP.cell rfl
      have q1 : V3.cell? ⟨w.heap.size, 1, none⟩ = _ := hP.cell rfl
      have q2 : V3.cell? ⟨w.heap.size, 2, none⟩ = _ := hP.cell rfl
      have q3 : V3.cell? ⟨w.heap.size, 3, none⟩ = _ := hP.cell rfl
      have q4 : V3.cell? ⟨w.heap.size, 4, none⟩ = _ := hP.cell rfl
      have q5 : V3.cell? ⟨w.heap.size, 5, none⟩ = _ := hP.cell rfl
      have q6 : V3.cell? ⟨w.heap.size, 6, none⟩ = _ := hP.cell rfl
      go_wp2_with fail
      refine (CL.out _ hb).mono ?_; rintro e V4 ⟨⟨A1, d1, rfl, hA1⟩, hx⟩
      replace hb := ext_trans hb hx
      replace hP := hP.ext hx
      clear hx
      clear q0 q1 q2 q3 q4 q5 q6
      go_wp2_with fail
      refine (CTh.out _ hb).mono ?_; rintro e V5 ⟨⟨T1, e1, rfl, hT1⟩, hx⟩
      replace hb := ext_trans hb hx
      replace hP := hP.ext hx
      replace hA1 := hA1.ext hx
      clear hx
      go_wp2_with fail
      refine (CLo.out _ A1 d1 T1 e1 hA1 hT1).mono ?_; rintro e V6 ⟨hx, v1, rfl, ⟨Ap1, cp1, rp1, rfl, hrp1, hMp1, -, -⟩⟩
      replace hb := ext_trans hb hx
      replace hP := hP.ext hx
      clear hx hA1 hT1
      go_wp2
      go_meet
      case rel => exact ⟨⟨Ap1, cp1, rp1, rfl, hrp1, hMp1⟩, rfl, hb, hP⟩
  case rest =>
    obtain ⟨⟨Ap, cp, rp, rfl, hrp, hMp⟩, rfl, hb2, hP2⟩ := hcut
    clear hb hP hrp0 hMp0 CLo
    have hb := hb2
    have hP := hP2
    clear hb2 hP2
    have hrows := packRes_rows (ts := ts) (ld := ld) h0
    cases hpk : packL ⟨l, h, ca, em, re, ax, dk⟩ ts (upto ts.length) ld with
    | none =>
      have hres : packRes ⟨l, h, ca, em, re, ax, dk⟩ ts ld = ([], 7) := by unfold packRes; rw [if_neg (not_not_intro h0), hpk]
      rw [hres] at hrp ⊢
      obtain rfl : rp = [] := by cases rp with | nil => rfl | cons a b => simp [rows] at hrp
      simp only [List.length_nil]
      clear hres hpk hrows hrp hMp
      go_wp2_with fail
      refine (awake_any _).mono ?_; rintro e Wz ⟨rfl, hx⟩
      replace hb := ext_trans hb hx
      go_wp2
      go_ret
      exact ⟨rfl, hb⟩
    | some P =>
      have hres : packRes ⟨l, h, ca, em, re, ax, dk⟩ ts ld = (P, 0) := by unfold packRes; rw [if_neg (not_not_intro h0), hpk]
      rw [hres] at hrp hrows ⊢
      obtain ⟨hright, hload⟩ := pack_right h0 hpk
      have hRP := right_iff.1 hright
      have hrpl : rp.length = l.length := by rw [← rows_len, hrp]; exact hRP.many
      simp only at hrp hrows
      have hrl : ∀ x ∈ rp, x.r.length ≤ 1000 := fun x hx => hrows.2 x.r (by rw [← hrp]; exact List.mem_map.2 ⟨x, hx, rfl⟩)
      have hfl : (rows rp).flatten.length = ts.length := by rw [hrp, hRP.perm.length_eq, upto_len]
      have hre : rightE ⟨l, h, ca, em, re, ax, dk⟩ ts (rows rp) = true := by unfold rightE; rw [decide_eq_true h0, hrp, hright]; rfl
      have hle : ld = true → loadE ⟨l, h, ca, em, re, ax, dk⟩ ts (rows rp) = true := fun e => by unfold loadE; rw [hre, hrp, hload e]; rfl
      have CLa := Lib.hid (fun V (hV : RwM V Ap rp) => lanesC Ap cp rp V (by omega) hV (fun x hx => by have := hrl x hx; omega))
      have CLw := Lib.hid (fun V (hV : RwM V Ap rp) => lanes_own Ap rp.length cp rp V rfl (by omega) hV (fun x hx => by have := hrl x hx; omega))
      have CR := Lib.hid (fun V (A1 : Option Addr) (d1 : Nat) (T1 : Option Addr) (e1 : Nat) (R1 : Option Addr) (f1 : Nat) (r1 : List RwV) (h8 : rows r1 = rows rp) (h5 : r1.length = rp.length) (h6 : Cells V A1 1 Go.Bs.encI l) (h7 : Cells V T1 4 Th.enc ts) (hM1 : RwM V R1 r1) => rightC A1 d1 h ca em re ax dk l T1 e1 ts R1 f1 r1 (rows rp) V (by omega) (by omega) (by omega) (flat_of_rows h8 (by omega)) h6 h7 hM1 h8)
      have CO := Lib.hid (fun V (A1 : Option Addr) (d1 : Nat) (T1 : Option Addr) (e1 : Nat) (R1 : Option Addr) (f1 : Nat) (r1 : List RwV) (h8 : rows r1 = rows rp) (h5 : r1.length = rp.length) (h6 : Cells V A1 1 Go.Bs.encI l) (h7 : Cells V T1 4 Th.enc ts) (hM1 : RwM V R1 r1) => loadC A1 d1 h ca em re ax dk l T1 e1 ts R1 f1 r1 (rows rp) V (by omega) (by omega) (by omega) (flat_of_rows h8 (by omega)) h6 h7 hM1 h8)
      rw [hre] at CR
      have Hle := Lib.hid hle
      have HRP := Lib.hid hRP
      have Hrp := Lib.hid hrp
      have Hrpl := Lib.hid hrpl
      have h00 : ((0 : Int) != 0) = false := rfl
      clear hpk hres hright hload hRP hrows hrl hfl hre hle hrp hrpl h0 Hb1
      go_upto_region 8 with fail
      go_cut [80] (fun v W => v = .bool false ∧ Below wc.heap.size wc W)
      case first =>
        have q0 : wc.cell? ⟨w.heap.size, 0, none⟩ = _ := hP.cell rfl
        have q1 : wc.cell? ⟨w.heap.size, 1, none⟩ = _ := hP.cell rfl
        have q2 : wc.cell? ⟨w.heap.size, 2, none⟩ = _ := hP.cell rfl
        have q3 : wc.cell? ⟨w.heap.size, 3, none⟩ = _ := hP.cell rfl
        have q4 : wc.cell? ⟨w.heap.size, 4, none⟩ = _ := hP.cell rfl
        have q5 : wc.cell? ⟨w.heap.size, 5, none⟩ = _ := hP.cell rfl
        have q6 : wc.cell? ⟨w.heap.size, 6, none⟩ = _ := hP.cell rfl
        have hbs : Below wc.heap.size wc wc := Below.refl _ _
        go_wp2_with fail
        refine (CL.out _ hb).mono ?_; rintro e Y1 ⟨⟨A1, d1, rfl, hA1⟩, hx⟩
        replace hbs := hbs.trans (hx.mono hbs.size)
        replace hb := ext_trans hb hx
        replace hP := hP.ext hx
        replace hMp := hMp.ext hx
        clear hx
        clear q0 q1 q2 q3 q4 q5 q6
        go_wp2_with fail
        refine (CTh.out _ hb).mono ?_; rintro e Y2 ⟨⟨T1, e1, rfl, hT1⟩, hx⟩
        replace hbs := hbs.trans (hx.mono hbs.size)
        replace hb := ext_trans hb hx
        replace hP := hP.ext hx
        replace hMp := hMp.ext hx
        replace hA1 := hA1.ext hx
        clear hx
        go_wp2_with fail
        refine (CLa.out _ hMp).mono ?_; rintro e Y3 ⟨⟨R1, f1, r1, rfl, hr1, hR1⟩, hx⟩
        replace hbs := hbs.trans (hx.mono hbs.size)
        replace hb := ext_trans hb hx
        replace hP := hP.ext hx
        replace hMp := hMp.ext hx
        replace hA1 := hA1.ext hx
        replace hT1 := hT1.ext hx
        clear hx
        have hrn : r1.length = rp.length := by rw [← rows_len, hr1, rows_len]
        have CR1 := CR.out Y3 A1 d1 T1 e1 R1 f1 r1 hr1 hrn hA1 hT1 hR1
        rw [hrn] at CR1
        replace CR1 := Lib.hid CR1
        clear hr1 hrn hA1 hT1 hR1
        go_wp2_with fail
        refine (CR1.out).mono ?_; rintro e Y4 ⟨rfl, hx⟩
        replace hbs := hbs.trans (hx.mono hbs.size)
        replace hb := ext_trans hb hx
        replace hP := hP.ext hx
        replace hMp := hMp.ext hx
        clear hx
        cases ld
        · have q0 : Y4.cell? ⟨w.heap.size, 0, none⟩ = _ := hP.cell rfl
          have q1 : Y4.cell? ⟨w.heap.size, 1, none⟩ = _ := hP.cell rfl
          have q2 : Y4.cell? ⟨w.heap.size, 2, none⟩ = _ := hP.cell rfl
          have q3 : Y4.cell? ⟨w.heap.size, 3, none⟩ = _ := hP.cell rfl
          have q4 : Y4.cell? ⟨w.heap.size, 4, none⟩ = _ := hP.cell rfl
          have q5 : Y4.cell? ⟨w.heap.size, 5, none⟩ = _ := hP.cell rfl
          have q6 : Y4.cell? ⟨w.heap.size, 6, none⟩ = _ := hP.cell rfl
          have hne : ((rp.length : Int) != (l.length : Int)) = false := by rw [bne_eq_false_iff_eq, Hrpl.out]
          go_wp2
          go_meet
          case rel => exact ⟨rfl, hbs⟩
        · have hlt := Hle.out rfl
          rw [hlt] at CO
          have q0 : Y4.cell? ⟨w.heap.size, 0, none⟩ = _ := hP.cell rfl
          have q1 : Y4.cell? ⟨w.heap.size, 1, none⟩ = _ := hP.cell rfl
          have q2 : Y4.cell? ⟨w.heap.size, 2, none⟩ = _ := hP.cell rfl
          have q3 : Y4.cell? ⟨w.heap.size, 3, none⟩ = _ := hP.cell rfl
          have q4 : Y4.cell? ⟨w.heap.size, 4, none⟩ = _ := hP.cell rfl
          have q5 : Y4.cell? ⟨w.heap.size, 5, none⟩ = _ := hP.cell rfl
          have q6 : Y4.cell? ⟨w.heap.size, 6, none⟩ = _ := hP.cell rfl
          go_wp2_with fail
          refine (CL.out _ hb).mono ?_; rintro e Y5 ⟨⟨A1, d1, rfl, hA1⟩, hx⟩
          replace hbs := hbs.trans (hx.mono hbs.size)
          replace hb := ext_trans hb hx
          replace hP := hP.ext hx
          replace hMp := hMp.ext hx
          clear hx
          clear q0 q1 q2 q3 q4 q5 q6
          go_wp2_with fail
          refine (CTh.out _ hb).mono ?_; rintro e Y6 ⟨⟨T1, e1, rfl, hT1⟩, hx⟩
          replace hbs := hbs.trans (hx.mono hbs.size)
          replace hb := ext_trans hb hx
          replace hP := hP.ext hx
          replace hMp := hMp.ext hx
          replace hA1 := hA1.ext hx
          clear hx
          go_wp2_with fail
          refine (CLa.out _ hMp).mono ?_; rintro e Y7 ⟨⟨R1, f1, r1, rfl, hr1, hR1⟩, hx⟩
          replace hbs := hbs.trans (hx.mono hbs.size)
          replace hb := ext_trans hb hx
          replace hP := hP.ext hx
          replace hMp := hMp.ext hx
          replace hA1 := hA1.ext hx
          replace hT1 := hT1.ext hx
          clear hx
          have hrn : r1.length = rp.length := by rw [← rows_len, hr1, rows_len]
          have CO1 := CO.out Y7 A1 d1 T1 e1 R1 f1 r1 hr1 hrn hA1 hT1 hR1
          rw [hrn] at CO1
          replace CO1 := Lib.hid CO1
          clear hr1 hrn hA1 hT1 hR1
          go_wp2_with fail
          refine (CO1.out).mono ?_; rintro e Y8 ⟨rfl, hx⟩
          replace hbs := hbs.trans (hx.mono hbs.size)
          replace hb := ext_trans hb hx
          replace hP := hP.ext hx
          replace hMp := hMp.ext hx
          clear hx
          have q0 : Y8.cell? ⟨w.heap.size, 0, none⟩ = _ := hP.cell rfl
          have q1 : Y8.cell? ⟨w.heap.size, 1, none⟩ = _ := hP.cell rfl
          have q2 : Y8.cell? ⟨w.heap.size, 2, none⟩ = _ := hP.cell rfl
          have q3 : Y8.cell? ⟨w.heap.size, 3, none⟩ = _ := hP.cell rfl
          have q4 : Y8.cell? ⟨w.heap.size, 4, none⟩ = _ := hP.cell rfl
          have q5 : Y8.cell? ⟨w.heap.size, 5, none⟩ = _ := hP.cell rfl
          have q6 : Y8.cell? ⟨w.heap.size, 6, none⟩ = _ := hP.cell rfl
          have hne : ((rp.length : Int) != (l.length : Int)) = false := by rw [bne_eq_false_iff_eq, Hrpl.out]
          go_wp2
          go_meet
          case rel => exact ⟨rfl, hbs⟩
      case rest =>
        obtain ⟨rfl, hbc⟩ := hcut
        replace hP := hP.ext hbc
        replace hMp := hMp.ext hbc
        replace hb := ext_trans hb hbc
        clear hbc CR CO CLa CTh CL
        have hPl := hP.lt
        go_wp2_with fail
        refine (CLw.out _ hMp).mono ?_; rintro e X0 ⟨⟨v9, r9, rfl, hr9, ho9, hj9, hn9⟩, hx⟩
        have hl9 : r9.length = l.length := by rw [← rows_len, hr9, rows_len, Hrpl.out]
        obtain ⟨g, cap, rfl, hgb, hgl, -, -, hcg, hfz⟩ := ho9.blk rwv_len (by omega)
        replace hb := ext_trans hb hx
        have hWs := hb.size
        have hgw : w.heap.size < g := by omega
        have hS0 : OutS ts l.length g X0 r9 0 := by
          refine ⟨hl9, hcg, hj9.row, hj9.cap, fun x hx e => ?_, fun x hx => ?_, fun x hx => ?_, ?_, hfz⟩
          · cases hA : x.A with
            | none => rw [hA] at e; cases e
            | some a =>
              rw [hA] at e
              have h5 := (hj9.out x hx a.block (by rw [hA]; rfl)).1
              simp only [Option.map_some, Option.some.injEq] at e
              exact h5 (by rw [e]; rfl)
          · exact (HRP.out.inR x.r (by rw [← Hrp.out, ← hr9]; exact List.mem_map.2 ⟨x, hx, rfl⟩)).1
          · obtain ⟨i, hi, e⟩ := List.mem_iff_getElem.1 (show x.r ∈ P by rw [← Hrp.out, ← hr9]; exact List.mem_map.2 ⟨x, hx, rfl⟩)
            have h5 := HRP.out.lane i hi
            unfold laneB at h5
            rw [Bool.and_eq_true, decide_eq_true_eq] at h5
            have e2 : P.getD i [] = x.r := by simp [List.getD, hi, e]
            rw [e2] at h5
            exact h5.1
          · rw [hr9, Hrp.out, HRP.out.perm.length_eq, upto_len]; omega
        rw [hl9]
        clear hx hMp hP CLw ho9 hj9 hcg hfz hr9 HRP Hrp Hrpl hn9 hl9
        obtain ⟨nl, hnl⟩ : ∃ nl, l.length = nl := ⟨_, rfl⟩
        go_wp2
        go_loopw [10, 11, 12, 13, 14, 15, 16] (fun t _ _ _ _ _ _ wr => ∃ (s : Nat) (r : List RwV), t = .int .i64 s ∧ s ≤ ts.length ∧ OutS ts l.length g wr r s ∧ Dr.Bel [g] X0 wr) (fun t _ _ _ _ _ _ _ => ts.length - (intOf t).toNat)
        case atStart => exact ⟨0, r9, rfl, by omega, hS0, Dr.Bel.refl _ _⟩
        case round =>
          clear hS0
          obtain ⟨s, r, rfl, hs, hS, hbl⟩ := hrel
          by_cases hst : s < ts.length
          · have hst' : (s : Int) < (ts.length : Int) := by omega
            have hdoor := at_door hok (p := rows r) (fun y hy => by obtain ⟨x, hx, rfl⟩ := List.mem_map.1 hy; exact hS.inr x hx) (fun y hy => by obtain ⟨x, hx, rfl⟩ := List.mem_map.1 hy; exact hS.fal x hx) (fun e => by have := hS.tot; rw [e] at this; simp at this; omega)
            have Hdoor := Lib.hid hdoor
            have hrl := hS.len
            have htw := Ht.out.ext (hb.trans (hbl.old hb.size (by simp; omega)))
            have hlenr : ∀ x ∈ r, x.r.length ≤ 14 := fun x hx => by
              have h5 := (show x.r.Sublist (rows r).flatten from List.sublist_flatten_of_mem (List.mem_map.2 ⟨x, hx, rfl⟩)).length_le
              have := hS.tot
              omega
            have Hlenr := Lib.hid hlenr
            have Hbl := Lib.hid hbl
            clear hdoor hlenr hbl
            generalize hL : lstN ts (rows r).flatten = L at *
            have HL := Lib.hid hL
            clear hL
            go_wp2
            go_loop [11, 13, 14] (fun le t _ => ∃ i : Nat, t = .int .i64 i ∧ i ≤ l.length ∧ le = .int .i64 (lstN ts ((rows r).take i).flatten)) (fun _ t _ => l.length - (intOf t).toNat)
            case atStart => exact ⟨0, rfl, by omega, rfl⟩
            case round =>
              obtain ⟨i, rfl, hi, rfl⟩ := hrel
              by_cases hil : i < l.length
              · have hil' : (i : Int) < (l.length : Int) := by omega
                have hir : i < r.length := by rw [hrl]; exact hil
                have hirr : i < (rows r).length := by rw [rows_len]; exact hir
                obtain ⟨b, off, eg, -, c0⟩ := hS.hdr.at1 hir rfl
                cases eg
                rw [Nat.zero_add] at c0
                have hrow := hS.row _ (List.getElem_mem hir)
                have hin := hS.inr _ (List.getElem_mem hir)
                have hle := Hlenr.out _ (List.getElem_mem hir)
                have Hts := Lib.hid (show ((rows r).take (i + 1)).flatten = ((rows r).take i).flatten ++ r[i].r by
                  rw [List.take_succ_eq_append_getElem hirr, List.flatten_append]; simp [rows])
                generalize ((rows r).take i).flatten = pre at *
                generalize r[i] = x at *
                obtain ⟨xr, xA, xc⟩ := x
                simp only at *
                generalize hxl : xr.length = e1 at *
                have Hxl := Lib.hid hxl
                clear hxl
                go_wp2
                go_loop [11, 14] (fun le q => ∃ y : Nat, q = .int .i64 y ∧ y ≤ e1 ∧ le = .int .i64 (lstN ts (pre ++ xr.take y))) (fun _ q => e1 - (intOf q).toNat)
                case atStart => exact ⟨0, rfl, by omega, by simp⟩
                case round =>
                  obtain ⟨y, rfl, hy, rfl⟩ := hrel
                  by_cases hyl : y < e1
                  · have hyl' : (y : Int) < (e1 : Int) := by omega
                    have hy1 : y < xr.length := by rw [Hxl.out]; exact hyl
                    obtain ⟨b3, off3, rfl, -, e0⟩ := hrow.at1 hy1 rfl
                    have hxx := hin _ (List.getElem_mem hy1)
                    obtain ⟨j, hj⟩ : ∃ j : Nat, xr[y] = j := ⟨xr[y].toNat, by omega⟩
                    have hjt : j < ts.length := by omega
                    have Hs2 := Lib.hid (show lstN ts (pre ++ xr.take (y + 1)) = min (lstN ts (pre ++ xr.take y)) ts[j].need by
                      rw [List.take_succ_eq_append_getElem hy1, ← List.append_assoc, lstN_snoc, hj, thAt_eq hjt])
                    rw [hj] at e0
                    obtain ⟨b4, off4, rfl, -, -, -, -, d3⟩ := htw.at4 hjt rfl
                    have hjn : ¬ (j : Int) < 0 := by omega
                    have hjm : ¬ (ts.length : Int) ≤ (j : Int) := by omega
                    have hjm2 : ¬ ts.length ≤ j := by omega
                    have hjt' : (j : Int) < (ts.length : Int) := by omega
                    clear hxx hj
                    generalize ts[j].need = ne at *
                    generalize lstN ts (pre ++ xr.take y) = l0 at *
                    by_cases hmin : l0 ≤ ne
                    · have hm1 : min l0 ne = l0 := Int.min_eq_left hmin
                      rw [hm1] at Hs2
                      go_wp2
                      go_round
                      case rel => exact ⟨y + 1, by go_num, by omega, by rw [Hs2.out]⟩
                      case measure => simp [intOf]; omega
                    · have hm1 : min l0 ne = ne := Int.min_eq_right (by omega)
                      rw [hm1] at Hs2
                      go_wp2
                      go_round
                      case rel => exact ⟨y + 1, by go_num, by omega, by rw [Hs2.out]⟩
                      case measure => simp [intOf]; omega
                  · have hyt : xr.take y = xr := List.take_of_length_le (by rw [Hxl.out]; omega)
                    rw [hyt, ← Hts.out]
                    clear hyt
                    go_wp2
                    go_round
                    case rel => exact ⟨i + 1, by go_num, by omega, rfl⟩
                    case measure => simp [intOf]; omega
              · have htk : (rows r).take i = rows r := List.take_of_length_le (by rw [rows_len]; omega)
                rw [htk, HL.out]
                clear htk
                go_wp2
                go_loop [12, 15, 16] (fun la t _ => ∃ (i : Nat) (a : Int), t = .int .i64 i ∧ i ≤ l.length ∧ la = .int .i64 a ∧ ((a = -1 ∧ Hid (∀ k, k < i → ¬ Door ts r L k)) ∨ ∃ z : Nat, a = z ∧ z < l.length ∧ Hid (Door ts r L z))) (fun _ t _ => l.length - (intOf t).toNat)
                case atStart => exact ⟨0, -1, rfl, by omega, rfl, .inl ⟨rfl, Lib.hid (by omega)⟩⟩
                case round =>
                  obtain ⟨i, a, rfl, hi, rfl, ha⟩ := hrel
                  by_cases hil : i < l.length
                  · have hil' : (i : Int) < (l.length : Int) := by omega
                    have hir : i < r.length := by rw [hrl]; exact hil
                    obtain ⟨b, off, eg, -, c0⟩ := hS.hdr.at1 hir rfl
                    cases eg
                    rw [Nat.zero_add] at c0
                    have hrow := hS.row _ (List.getElem_mem hir)
                    have hin := hS.inr _ (List.getElem_mem hir)
                    have hle := Hlenr.out _ (List.getElem_mem hir)
                    have Hdr := Lib.hid (Door.row (ts := ts) (L := L) hir)
                    have Hyes := Lib.hid (show Door ts r L i → (((i : Int) = -1 ∧ Hid (∀ k, k < i + 1 → ¬ Door ts r L k)) ∨ ∃ z : Nat, (i : Int) = z ∧ z < l.length ∧ Hid (Door ts r L z)) from fun h => .inr ⟨i, rfl, hil, Lib.hid h⟩)
                    have Hnot := Lib.hid (show ¬ Door ts r L i → ((a = -1 ∧ Hid (∀ k, k < i + 1 → ¬ Door ts r L k)) ∨ ∃ z : Nat, a = z ∧ z < l.length ∧ Hid (Door ts r L z)) from fun h => by
                      rcases ha with ⟨e, hk⟩ | hz
                      · exact .inl ⟨e, Lib.hid fun k hk2 => by
                          by_cases ek : k = i
                          · rw [ek]; exact h
                          · exact hk.out k (by omega)⟩
                      · exact .inr hz)
                    clear ha
                    generalize r[i] = x at *
                    obtain ⟨xr, xA, xc⟩ := x
                    simp only at *
                    generalize hxl : xr.length = e1 at *
                    have Hxl := Lib.hid hxl
                    clear hxl
                    by_cases he0 : e1 = 0
                    · subst he0
                      have hn := Lib.hid (Hnot.out (fun h => by
                        obtain ⟨y, h5, -⟩ := Hdr.out.1 h
                        rw [List.length_eq_zero_iff.1 Hxl.out] at h5
                        cases h5))
                      go_wp2
                      go_round
                      case rel => exact ⟨i + 1, a, by go_num, by omega, rfl, hn.out⟩
                      case measure => simp [intOf]; omega
                    · obtain ⟨m, hm⟩ : ∃ m, e1 = m + 1 := ⟨e1 - 1, by omega⟩
                      have hmx : m < xr.length := by rw [Hxl.out]; omega
                      obtain ⟨b3, off3, rfl, -, e0⟩ := hrow.at1 hmx rfl
                      have hlast : xr.getLast? = some xr[m] := by
                        rw [List.getLast?_eq_getElem?]
                        have e : xr.length - 1 = m := by rw [Hxl.out]; omega
                        rw [e]; exact List.getElem?_eq_getElem hmx
                      rw [hlast] at Hdr
                      have hxx := hin _ (List.getElem_mem hmx)
                      obtain ⟨j, hj⟩ : ∃ j : Nat, xr[m] = j := ⟨xr[m].toNat, by omega⟩
                      have hjt : j < ts.length := by omega
                      have Hd2 := Lib.hid (show Door ts r L i ↔ ts[j].need = L by
                        rw [Hdr.out]
                        constructor
                        · rintro ⟨y, h5, h6⟩
                          cases h5
                          rw [hj, thAt_eq hjt] at h6
                          exact h6
                        · intro h6
                          exact ⟨_, rfl, by rw [hj, thAt_eq hjt]; exact h6⟩)
                      rw [hj] at e0
                      obtain ⟨b4, off4, rfl, -, -, -, -, d3⟩ := htw.at4 hjt rfl
                      have hjt' : (j : Int) < (ts.length : Int) := by omega
                      have hj0 : (0 : Int) ≤ (j : Int) := by omega
                      have he1 : (0 : Int) < (e1 : Int) := by omega
                      have he2 : 0 < e1 := by omega
                      have hsub : (e1 : Int) - 1 = (m : Int) := by omega
                      have hme : (m : Int) < (e1 : Int) := by omega
                      clear hxx hj hlast Hdr he0 hm
                      generalize ts[j].need = ne at *
                      by_cases hLe : ne = L
                      · have hb5 : (ne == L) = true := by rw [beq_iff_eq]; exact hLe
                        have hy := Lib.hid (Hyes.out (Hd2.out.2 hLe))
                        clear hLe Hd2
                        go_wp2
                        go_round
                        case rel => exact ⟨i + 1, i, by go_num, by omega, rfl, hy.out⟩
                        case measure => simp [intOf]; omega
                      · have hb5 : (ne == L) = false := by rw [beq_eq_false_iff_ne]; exact hLe
                        have hn := Lib.hid (Hnot.out (fun h => hLe (Hd2.out.1 h)))
                        clear hLe Hd2
                        go_wp2
                        go_round
                        case rel => exact ⟨i + 1, a, by go_num, by omega, rfl, hn.out⟩
                        case measure => simp [intOf]; omega
                  · have hz : ∃ z : Nat, a = z ∧ z < l.length ∧ Hid (Door ts r L z) := by
                      rcases ha with ⟨-, hk⟩ | hz
                      · exfalso
                        obtain ⟨z, hz, x, h5, h6⟩ := Hdoor.out
                        rw [rows_len] at hz
                        refine hk.out z (by omega) ⟨x, ?_, h6⟩
                        have e : (rows r).getD z [] = (rows r)[z] := by simp [List.getD, hz, rows_len]
                        rw [e]; exact h5
                      · exact hz
                    clear ha
                    obtain ⟨z, rfl, hzl, Hz⟩ := hz
                    have hzr : z < r.length := by rw [hrl]; exact hzl
                    obtain ⟨y, hy, -⟩ := (Door.row hzr).1 Hz.out
                    have hz0 : ¬ (z : Int) < 0 := by omega
                    have hzl' : (z : Int) < (l.length : Int) := by omega
                    obtain ⟨m, hm⟩ : ∃ m, r[z].r.length = m + 1 := ⟨r[z].r.length - 1, by
                      have : r[z].r ≠ [] := fun e => by rw [e] at hy; cases hy
                      have := List.length_pos_iff.2 this
                      omega⟩
                    have hcap := hS.cap _ (List.getElem_mem hzr)
                    have hle := Hlenr.out _ (List.getElem_mem hzr)
                    go_upto_region 32 with fail
                    refine Dr.wp_region_plan 14 [] (.q [0, 1, 2, 3, 4, 5, 6, 7, 8, 9, 10, 11, 12, 13] .done) (by kernel_rfl) (by kernel_rfl) ?_
                    have hSd := hS.drew
                    have hbd : Dr.Bel [g] X0 wr.drew := Hbl.out.trans (Dr.Bel.of (ext_drew wr))
                    clear hS
                    generalize World.drew wr = Y0 at *
                    obtain ⟨b, off, eg, -, c0⟩ := hSd.hdr.at1 hzr rfl
                    cases eg
                    rw [Nat.zero_add] at c0
                    have hSt := hSd.take hzr hm
                    have hfz := hSd.frz z
                    generalize r.set z ⟨r[z].r.take m, r[z].A, r[z].c⟩ = r' at *
                    generalize r[z] = x at *
                    obtain ⟨xr, xA, xc⟩ := x
                    simp only at *
                    have hcut : ∀ wx, (Instr.slice 35 (.slice xA (m + 1) xc) none (some (.int .i64 (m : Int))) none).run Try.prog wx = .ok (.slice xA m xc) wx := fun wx => by
                      have := run_cut_hi (P := Try.prog) Try.underlying35 sz35 xA (m + 1) xc m (by omega) wx
                      rw [cutA_zero] at this
                      exact this
                    rw [hm] at c0
                    have hsub : ((m + 1 : Nat) : Int) - 1 = (m : Int) := by omega
                    have hm14 : m + 1 ≤ 14 := by omega
                    clear hm hy hcap hle hrl
                    have q0 := Dr.cell0 c0
                    refine Dr.plan_q (l := [_, _, _, _, _, _, _, _, _, _, _, _, _, _]) rfl (fun K hK => ?_)
                    iterate 14 (go_big_quiet_step (fail))
                    refine wpQuiet_nil (hK _ ?_); clear hK K
                    clear q0
                    refine Dr.plan_done (tl := [_]) rfl ?_
                    go_wp2
                    clear c0 hfz
                    have hb2 : Dr.Bel [g] X0 (Y0.setCell ⟨g, z, none⟩ (.slice xA m xc)) := hbd.put (p := ⟨g, z, none⟩) (by simp) _
                    generalize Y0.setCell ⟨g, z, none⟩ (.slice xA m xc) = Y1 at *
                    go_roundw
                    case rel => exact ⟨s + 1, r', by go_num, by omega, hSt, hb2⟩
                    case measure => simp [intOf]; omega
          · have hdn := hS.done (by omega)
            have hrl := hS.len
            have hbf := hb.trans (hbl.old hb.size (by simp; omega))
            clear hbl
            go_wp2
            go_loop [17] (fun t => ∃ i : Nat, t = .int .i64 i ∧ i ≤ l.length) (fun t => l.length - (intOf t).toNat)
            case atStart => exact ⟨0, rfl, by omega⟩
            case round =>
              obtain ⟨i, rfl, hi⟩ := hrel
              by_cases hil : i < l.length
              · have hil' : (i : Int) < (l.length : Int) := by omega
                have hir : i < r.length := by rw [hrl]; exact hil
                obtain ⟨b, off, eg, -, c0⟩ := hS.hdr.at1 hir rfl
                cases eg
                rw [Nat.zero_add] at c0
                have hz := hdn _ (List.getElem_mem hir)
                rw [hz] at c0
                clear hz
                generalize r[i].A = xA at *
                generalize r[i].c = xc at *
                go_wp2
                go_round
                case rel => exact ⟨i + 1, by go_num, by omega⟩
                case measure => simp [intOf]; omega
              · have hb := hbf
                go_wp2_with fail
                refine (awake_any _).mono ?_; rintro e Wz ⟨rfl, hx⟩
                replace hb := ext_trans hb hx
                go_wp2
                go_ret
                exact ⟨rfl, hb⟩
end Go.Proofs.Ytbpmfaibcibleaa

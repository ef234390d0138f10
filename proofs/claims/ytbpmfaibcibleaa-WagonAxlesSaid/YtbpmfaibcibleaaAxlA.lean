/- The law WagonAxles: its walk. (Printed by mk_axla.py.) -/
import Derived.Test.YtbpmfaibcibleaaLawB
namespace Go.Wg
theorem axv_cases (j : Lo) (ts : List Th) (p : List (List Int)) (bs : List Br) :
    (checkE j ts ≠ 0 ∧ axVal j ts p = (0, 0, false, checkE j ts) ∧ stopVal j ts p bs = ([], checkE j ts)) ∨
      (checkE j ts = 0 ∧ rightB j ts p = false ∧ axVal j ts p = (0, 0, false, 9) ∧ stopVal j ts p bs = ([], 9)) ∨
      (checkE j ts = 0 ∧ rightB j ts p = true ∧ axVal j ts p = (axFront j ts p, axRear j ts p, holdsB j (axFront j ts p) (axRear j ts p), 0) ∧
        ((roadE bs ≠ 0 ∧ stopVal j ts p bs = ([], roadE bs)) ∨ (roadE bs = 0 ∧ stopVal j ts p bs = (stopsL j ts p bs, 0)))) := by
  unfold axVal stopVal
  by_cases h0 : checkE j ts = 0
  · rw [if_neg (not_not_intro h0), if_neg (not_not_intro h0)]
    by_cases h1 : rightB j ts p = true
    · rw [if_neg (by rw [h1]; simp), if_neg (by rw [h1]; simp)]
      refine .inr (.inr ⟨h0, h1, rfl, ?_⟩)
      by_cases h2 : roadE bs = 0
      · exact .inr ⟨h2, by rw [if_neg (not_not_intro h2)]⟩
      · exact .inl ⟨h2, by rw [if_pos h2]⟩
    · have h1' : rightB j ts p = false := by simpa using h1
      rw [if_pos h1', if_pos h1']
      exact .inr (.inl ⟨h0, h1', rfl, rfl⟩)
  · exact .inl ⟨h0, by rw [if_pos h0], by rw [if_pos h0]⟩
end Go.Wg
namespace Go.Proofs.Ytbpmfaibcibleaa
open Go.RowKit Go.Bs Go.Wg Go.Pl Go.Sort
set_option maxRecDepth 100000 in
set_option maxHeartbeats 4000000 in
theorem axles_law (A : Option Addr) (n c : Nat) (h ca em re ax dk : Int) (l : List Int) (T : Option Addr) (m cT : Nat) (ts : List Th) (R : Option Addr) (k cR : Nat) (rs : List RwV) (B : Option Addr) (q cB : Nat) (bs : List Br) (w : World) (hn : l.length = n) (hn0 : n ≤ 9223372036854775807) (hd : Cells w A 1 Go.Bs.encI l) (hm : ts.length = m) (hm0 : m ≤ 9223372036854775807) (ht : Cells w T 4 Th.enc ts) (hk : rs.length = k) (hk0 : k ≤ 9223372036854775807) (hM : RwM w R rs) (hq : bs.length = q) (hq0 : q ≤ 9223372036854775807) (hB : Cells w B 2 Br.enc bs) :
    Calls Try.prog 12 #[.agg #[.slice A n c, .int .i64 h, .int .i64 ca, .int .i64 em, .int .i64 re, .int .i64 ax, .int .i64 dk], .slice T m cT, .slice R k cR, .slice B q cB] w fun e w' => e = .returned (.bool true) ∧ Below w.heap.size w w' := by
  subst hn hm hk hq
  have CT := Lib.hid (fun V => Thin_any A l.length c h ca em re ax dk V)
  have CCu := Lib.hid (fun V (hV : Below w.heap.size w V) => cut_any R rs.length cR rs V rfl (by omega) (hM.hdr.ext hV))
  by_cases hg : l.length ≤ 10 ∧ ts.length ≤ 20 ∧ cutB rs.length (rows rs) = true ∧ bs.length ≤ 35
  case neg =>
    generalize hb1 : decide (l.length ≤ 10) = b1 at *
    generalize hb2 : cutB rs.length (rows rs) = b2 at *
    have hg2 : b1 = false ∨ (b1 = true ∧ ¬ ts.length ≤ 20) ∨ (b1 = true ∧ ts.length ≤ 20 ∧ b2 = false) ∨ (b1 = true ∧ ts.length ≤ 20 ∧ b2 = true ∧ ¬ bs.length ≤ 35) := by
      cases b1
      · exact .inl rfl
      · have := of_decide_eq_true hb1
        by_cases h17 : ts.length ≤ 20
        · cases b2
          · exact .inr (.inr (.inl ⟨rfl, h17, rfl⟩))
          · exact .inr (.inr (.inr ⟨rfl, h17, rfl, fun h35 => hg ⟨this, h17, rfl, h35⟩⟩))
        · exact .inr (.inl ⟨rfl, h17⟩)
    clear hg hb1 hb2
    have hb := ext_alloc w (.cells #[.slice A l.length c, .int .i64 h, .int .i64 ca, .int .i64 em, .int .i64 re, .int .i64 ax, .int .i64 dk] 37)
    have hP := Blk.new w 37 [.slice A l.length c, .int .i64 h, .int .i64 ca, .int .i64 em, .int .i64 re, .int .i64 ax, .int .i64 dk]
    go_enter Try.func12, Try.ntmps12
    go_upto_region 1 with fail
    change Blk (w.alloc (.cells #[.slice A l.length c, .int .i64 h, .int .i64 ca, .int .i64 em, .int .i64 re, .int .i64 ax, .int .i64 dk] 37)) _ _ _ at hP
    change Below w.heap.size w (w.alloc (.cells #[.slice A l.length c, .int .i64 h, .int .i64 ca, .int .i64 em, .int .i64 re, .int .i64 ax, .int .i64 dk] 37)) at hb
    generalize w.alloc (.cells #[.slice A l.length c, .int .i64 h, .int .i64 ca, .int .i64 em, .int .i64 re, .int .i64 ax, .int .i64 dk] 37) = W0 at *
    have q0 : W0.cell? ⟨w.heap.size, 0, none⟩ = _ := hP.cell rfl
    have q1 : W0.cell? ⟨w.heap.size, 1, none⟩ = _ := hP.cell rfl
    have q2 : W0.cell? ⟨w.heap.size, 2, none⟩ = _ := hP.cell rfl
    have q3 : W0.cell? ⟨w.heap.size, 3, none⟩ = _ := hP.cell rfl
    have q4 : W0.cell? ⟨w.heap.size, 4, none⟩ = _ := hP.cell rfl
    have q5 : W0.cell? ⟨w.heap.size, 5, none⟩ = _ := hP.cell rfl
    have q6 : W0.cell? ⟨w.heap.size, 6, none⟩ = _ := hP.cell rfl
    go_wp2_with fail
    refine (CT.out _).mono ?_; rintro e W1 ⟨rfl, hx⟩
    replace hb := ext_trans hb hx
    clear hx
    clear q0 q1 q2 q3 q4 q5 q6
    rcases hg2 with rfl | ⟨rfl, h17⟩ | ⟨rfl, h17, rfl⟩ | ⟨rfl, h17, rfl, h35⟩
    · clear CT
      go_wp2_with fail
      refine (awake_any _).mono ?_; rintro e Wz ⟨rfl, hx⟩
      replace hb := ext_trans hb hx
      go_wp2
      go_ret
      exact ⟨rfl, hb⟩
    · have h17' : (20 : Int) < (ts.length : Int) := by omega
      have h17'' : 20 < ts.length := by omega
      go_wp2_with fail
      refine (awake_any _).mono ?_; rintro e Wz ⟨rfl, hx⟩
      replace hb := ext_trans hb hx
      go_wp2
      go_ret
      exact ⟨rfl, hb⟩
    · have h17' : ¬ (20 : Int) < (ts.length : Int) := by omega
      have h17'' : ¬ 20 < ts.length := by omega
      go_wp2_with fail
      refine (CCu.out _ hb).mono ?_; rintro e W2 ⟨rfl, rfl⟩
      go_wp2_with fail
      refine (awake_any _).mono ?_; rintro e Wz ⟨rfl, hx⟩
      replace hb := ext_trans hb hx
      go_wp2
      go_ret
      exact ⟨rfl, hb⟩
    · have h17' : ¬ (20 : Int) < (ts.length : Int) := by omega
      have h17'' : ¬ 20 < ts.length := by omega
      have h35' : (35 : Int) < (bs.length : Int) := by omega
      have h35'' : 35 < bs.length := by omega
      go_wp2_with fail
      refine (CCu.out _ hb).mono ?_; rintro e W2 ⟨rfl, rfl⟩
      go_wp2_with fail
      refine (awake_any _).mono ?_; rintro e Wz ⟨rfl, hx⟩
      replace hb := ext_trans hb hx
      go_wp2
      go_ret
      exact ⟨rfl, hb⟩
  case pos =>
  obtain ⟨h10, h17, hcut, h35⟩ := hg
  rw [show decide (l.length ≤ 10) = true from decide_eq_true h10] at CT
  rw [hcut] at CCu
  obtain ⟨hr10, hr20, hrF⟩ := cut_rows hcut rfl
  have hrl : ∀ x ∈ rs, x.r.length ≤ 1000000000 := fun x hx => by have := hr20 x hx; omega
  clear hcut
  have h17' : ¬ (20 : Int) < (ts.length : Int) := by omega
  have h35' : ¬ (35 : Int) < (bs.length : Int) := by omega
  have CL := Lib.hid (fun V (hV : Below w.heap.size w V) => lorryC A c h ca em re ax dk l V (by omega) (hd.ext hV))
  have CTh := Lib.hid (fun V (hV : Below w.heap.size w V) => thingsC T cT ts V (by omega) (ht.ext hV))
  have CLa := Lib.hid (fun V (hV : Below w.heap.size w V) => lanesC R cR rs V (by omega) (hM.ext hV) hrl)
  have CF := Lib.hid (fun V (hV : Below w.heap.size w V) => Fault_any A l.length c h ca em re ax dk l T ts.length cT ts V rfl (by omega) (hd.ext hV) rfl (by omega) (ht.ext hV))
  have CRo := Lib.hid (fun V (hV : Below w.heap.size w V) => roadC B cB bs V (by omega) (hB.ext hV))
  have CAx := Lib.hid (fun V (A1 : Option Addr) (d1 : Nat) (T1 : Option Addr) (e1 : Nat) (R1 : Option Addr) (f1 : Nat) (r1 : List RwV) (h8 : rows r1 = rows rs) (h5 : r1.length = rs.length) (h6 : Cells V A1 1 Go.Bs.encI l) (h7 : Cells V T1 4 Th.enc ts) (hM1 : RwM V R1 r1) => axlesC A1 d1 h ca em re ax dk l T1 e1 ts R1 f1 r1 (rows rs) V (by omega) (by omega) (by omega) (flat_of_rows h8 (by omega)) h6 h7 hM1 h8)
  have CSt := Lib.hid (fun V (A1 : Option Addr) (d1 : Nat) (T1 : Option Addr) (e1 : Nat) (R1 : Option Addr) (f1 : Nat) (r1 : List RwV) (h8 : rows r1 = rows rs) (h5 : r1.length = rs.length) (h6 : Cells V A1 1 Go.Bs.encI l) (h7 : Cells V T1 4 Th.enc ts) (hM1 : RwM V R1 r1) (B1 : Option Addr) (g1 : Nat) (h9 : Cells V B1 2 Br.enc bs) => stopsC A1 d1 h ca em re ax dk l T1 e1 ts R1 f1 r1 (rows rs) B1 g1 bs V (by omega) (by omega) (by omega) (flat_of_rows h8 (by omega)) h6 h7 hM1 h8 (by omega) h9)
  have RF := Lib.hid (fun V (hV : Below w.heap.size w V) => RoadFault_any B bs.length cB bs V rfl (by omega) (hB.ext hV))
  have RR := Lib.hid (fun V (hV : Below w.heap.size w V) (h0 : checkE ⟨l, h, ca, em, re, ax, dk⟩ ts = 0) => RightR_any A l.length c h ca em re ax dk l T ts.length cT ts R rs.length cR rs V rfl (by omega) (hd.ext hV) rfl (by omega) (checkE_zero.1 h0).2.2 (ht.ext hV) rfl (by omega) (hM.ext hV) (by omega))
  have RA := Lib.hid (fun V (hV : Below w.heap.size w V) (h0 : checkE ⟨l, h, ca, em, re, ax, dk⟩ ts = 0) (h1 : rightB ⟨l, h, ca, em, re, ax, dk⟩ ts (rows rs) = true) => AxlesR_any A l.length c h ca em re ax dk l T ts.length cT ts R rs.length cR rs V rfl (ht.ext hV) rfl (hM.ext hV) h0 h1)
  have RS := Lib.hid (fun V (hV : Below w.heap.size w V) (h0 : checkE ⟨l, h, ca, em, re, ax, dk⟩ ts = 0) (h1 : rightB ⟨l, h, ca, em, re, ax, dk⟩ ts (rows rs) = true) (h2 : roadE bs = 0) => StopsR_any A l.length c h ca em re ax dk l T ts.length cT ts R rs.length cR rs B bs.length cB bs V rfl (ht.ext hV) rfl (hM.ext hV) rfl (hB.ext hV) h0 h1 h2)
  have RH := Lib.hid (fun V (x y : Int) => Holds_any A l.length c h ca em re ax dk l x y V)
  have HSl := Lib.hid (show (stopsL ⟨l, h, ca, em, re, ax, dk⟩ ts (rows rs) bs).length ≤ 35 from Nat.le_trans (stopsTo_len _ _ _ _ _) h35)
  have Hca := Lib.hid (axv_cases ⟨l, h, ca, em, re, ax, dk⟩ ts (rows rs) bs)
  generalize axFront ⟨l, h, ca, em, re, ax, dk⟩ ts (rows rs) = fr at *
  generalize axRear ⟨l, h, ca, em, re, ax, dk⟩ ts (rows rs) = rr at *
  have RH := Lib.hid (fun V => RH.out V fr rr)
  generalize holdsB ⟨l, h, ca, em, re, ax, dk⟩ fr rr = ho at *
  generalize stopsL ⟨l, h, ca, em, re, ax, dk⟩ ts (rows rs) bs = sL at *
  generalize roadE bs = rE at *
  generalize rightB ⟨l, h, ca, em, re, ax, dk⟩ ts (rows rs) = rb at *
  generalize checkE ⟨l, h, ca, em, re, ax, dk⟩ ts = ce at *
  generalize axVal ⟨l, h, ca, em, re, ax, dk⟩ ts (rows rs) = av at *
  generalize stopVal ⟨l, h, ca, em, re, ax, dk⟩ ts (rows rs) bs = sv at *
  obtain ⟨a1, a2, a3, a4⟩ := av
  obtain ⟨sl, se⟩ := sv
  simp only [Prod.mk.injEq] at Hca
  simp only at CAx CSt
  clear hd ht hM hB hr10 hr20 hrF hrl
  have hb := ext_alloc w (.cells #[.slice A l.length c, .int .i64 h, .int .i64 ca, .int .i64 em, .int .i64 re, .int .i64 ax, .int .i64 dk] 37)
  have hP := Blk.new w 37 [.slice A l.length c, .int .i64 h, .int .i64 ca, .int .i64 em, .int .i64 re, .int .i64 ax, .int .i64 dk]
  go_enter Try.func12, Try.ntmps12
  go_upto_region 1 with fail
  change Blk (w.alloc (.cells #[.slice A l.length c, .int .i64 h, .int .i64 ca, .int .i64 em, .int .i64 re, .int .i64 ax, .int .i64 dk] 37)) _ _ _ at hP
  change Below w.heap.size w (w.alloc (.cells #[.slice A l.length c, .int .i64 h, .int .i64 ca, .int .i64 em, .int .i64 re, .int .i64 ax, .int .i64 dk] 37)) at hb
  generalize w.alloc (.cells #[.slice A l.length c, .int .i64 h, .int .i64 ca, .int .i64 em, .int .i64 re, .int .i64 ax, .int .i64 dk] 37) = W0 at *
  have q0 : W0.cell? ⟨w.heap.size, 0, none⟩ = _ := hP.cell rfl
  have q1 : W0.cell? ⟨w.heap.size, 1, none⟩ = _ := hP.cell rfl
  have q2 : W0.cell? ⟨w.heap.size, 2, none⟩ = _ := hP.cell rfl
  have q3 : W0.cell? ⟨w.heap.size, 3, none⟩ = _ := hP.cell rfl
  have q4 : W0.cell? ⟨w.heap.size, 4, none⟩ = _ := hP.cell rfl
  have q5 : W0.cell? ⟨w.heap.size, 5, none⟩ = _ := hP.cell rfl
  have q6 : W0.cell? ⟨w.heap.size, 6, none⟩ = _ := hP.cell rfl
  go_wp2_with fail
  refine (CT.out _).mono ?_; rintro e W1 ⟨rfl, hx⟩
  replace hb := ext_trans hb hx
  replace hP := hP.ext hx
  clear hx CT
  clear q0 q1 q2 q3 q4 q5 q6
  go_wp2_with fail
  refine (CCu.out _ hb).mono ?_; rintro e W2 ⟨rfl, rfl⟩
  clear CCu
  have q0 : W1.cell? ⟨w.heap.size, 0, none⟩ = _ := hP.cell rfl
  have q1 : W1.cell? ⟨w.heap.size, 1, none⟩ = _ := hP.cell rfl
  have q2 : W1.cell? ⟨w.heap.size, 2, none⟩ = _ := hP.cell rfl
  have q3 : W1.cell? ⟨w.heap.size, 3, none⟩ = _ := hP.cell rfl
  have q4 : W1.cell? ⟨w.heap.size, 4, none⟩ = _ := hP.cell rfl
  have q5 : W1.cell? ⟨w.heap.size, 5, none⟩ = _ := hP.cell rfl
  have q6 : W1.cell? ⟨w.heap.size, 6, none⟩ = _ := hP.cell rfl
  go_wp2_with fail
  refine (CL.out _ hb).mono ?_; rintro e V1 ⟨⟨A1, d1, rfl, hA1⟩, hx⟩
  replace hb := ext_trans hb hx
  replace hP := hP.ext hx
  clear hx
  clear q0 q1 q2 q3 q4 q5 q6
  go_wp2_with fail
  refine (CTh.out _ hb).mono ?_; rintro e V2 ⟨⟨T1, e1, rfl, hT1⟩, hx⟩
  replace hb := ext_trans hb hx
  replace hP := hP.ext hx
  replace hA1 := hA1.ext hx
  clear hx
  go_wp2_with fail
  refine (CLa.out _ hb).mono ?_; rintro e V3 ⟨⟨R1, f1, r1, rfl, hr1, hR1⟩, hx⟩
  replace hb := ext_trans hb hx
  replace hP := hP.ext hx
  replace hA1 := hA1.ext hx
  replace hT1 := hT1.ext hx
  clear hx
  have hrn : r1.length = rs.length := by rw [← rows_len, hr1, rows_len]
  have CAx1 := CAx.out V3 A1 d1 T1 e1 R1 f1 r1 hr1 hrn hA1 hT1 hR1
  rw [hrn] at CAx1
  replace CAx1 := Lib.hid CAx1
  clear hr1 hrn hA1 hT1 hR1
  go_wp2_with fail
  refine (CAx1.out).mono ?_; rintro e V4 ⟨rfl, hx⟩
  replace hb := ext_trans hb hx
  replace hP := hP.ext hx
  clear hx CAx1 CAx
  have q0 : V4.cell? ⟨w.heap.size, 0, none⟩ = _ := hP.cell rfl
  have q1 : V4.cell? ⟨w.heap.size, 1, none⟩ = _ := hP.cell rfl
  have q2 : V4.cell? ⟨w.heap.size, 2, none⟩ = _ := hP.cell rfl
  have q3 : V4.cell? ⟨w.heap.size, 3, none⟩ = _ := hP.cell rfl
  have q4 : V4.cell? ⟨w.heap.size, 4, none⟩ = _ := hP.cell rfl
  have q5 : V4.cell? ⟨w.heap.size, 5, none⟩ = _ := hP.cell rfl
  have q6 : V4.cell? ⟨w.heap.size, 6, none⟩ = _ := hP.cell rfl
  go_wp2_with fail
  refine (CL.out _ hb).mono ?_; rintro e V5 ⟨⟨A1, d1, rfl, hA1⟩, hx⟩
  replace hb := ext_trans hb hx
  replace hP := hP.ext hx
  clear hx CL
  clear q0 q1 q2 q3 q4 q5 q6
  go_wp2_with fail
  refine (CTh.out _ hb).mono ?_; rintro e V6 ⟨⟨T1, e1, rfl, hT1⟩, hx⟩
  replace hb := ext_trans hb hx
  replace hP := hP.ext hx
  replace hA1 := hA1.ext hx
  clear hx CTh
  go_wp2_with fail
  refine (CLa.out _ hb).mono ?_; rintro e V7 ⟨⟨R1, f1, r1, rfl, hr1, hR1⟩, hx⟩
  replace hb := ext_trans hb hx
  replace hP := hP.ext hx
  replace hA1 := hA1.ext hx
  replace hT1 := hT1.ext hx
  clear hx CLa
  go_wp2_with fail
  refine (CRo.out _ hb).mono ?_; rintro e V8 ⟨⟨B1, g1, rfl, hB1⟩, hx⟩
  replace hb := ext_trans hb hx
  replace hP := hP.ext hx
  replace hA1 := hA1.ext hx
  replace hT1 := hT1.ext hx
  replace hR1 := hR1.ext hx
  clear hx CRo
  have hrn : r1.length = rs.length := by rw [← rows_len, hr1, rows_len]
  have CSt1 := CSt.out V8 A1 d1 T1 e1 R1 f1 r1 hr1 hrn hA1 hT1 hR1 B1 g1 hB1
  rw [hrn] at CSt1
  replace CSt1 := Lib.hid CSt1
  clear hr1 hrn hA1 hT1 hR1
  go_wp2_with fail
  refine (CSt1.out).mono ?_; rintro e V9 ⟨⟨S1, s1, rfl, hS1⟩, hx⟩
  replace hb := ext_trans hb hx
  replace hP := hP.ext hx
  clear hx CSt1 CSt
  have q0 : V9.cell? ⟨w.heap.size, 0, none⟩ = _ := hP.cell rfl
  have q1 : V9.cell? ⟨w.heap.size, 1, none⟩ = _ := hP.cell rfl
  have q2 : V9.cell? ⟨w.heap.size, 2, none⟩ = _ := hP.cell rfl
  have q3 : V9.cell? ⟨w.heap.size, 3, none⟩ = _ := hP.cell rfl
  have q4 : V9.cell? ⟨w.heap.size, 4, none⟩ = _ := hP.cell rfl
  have q5 : V9.cell? ⟨w.heap.size, 5, none⟩ = _ := hP.cell rfl
  have q6 : V9.cell? ⟨w.heap.size, 6, none⟩ = _ := hP.cell rfl
  go_wp2_with fail
  refine (CF.out _ hb).mono ?_; rintro e Va ⟨rfl, hx⟩
  replace hb := ext_trans hb hx
  replace hP := hP.ext hx
  replace hS1 := hS1.ext hx
  clear hx CF
  clear q0 q1 q2 q3 q4 q5 q6
  rcases Hca.out with ⟨h0, ⟨rfl, rfl, rfl, rfl⟩, rfl, rfl⟩ | ⟨h0, rfl, ⟨rfl, rfl, rfl, rfl⟩, rfl, rfl⟩ | ⟨h0, rfl, ⟨rfl, rfl, rfl, rfl⟩, hroad⟩
  · clear Hca RR RA RS RH RF hS1 hP
    have h00 := beq_eq_false_iff_ne.2 h0
    have h01 := bne_iff_ne.2 h0
    clear h0
    simp only [List.length_nil]
    go_wp2_with fail
    refine (awake_any _).mono ?_; rintro e Vb ⟨rfl, hx⟩
    replace hb := ext_trans hb hx
    go_wp2
    go_ret
    exact ⟨rfl, hb⟩
  · subst h0
    have RR1 := Lib.hid (fun V hV => RR.out V hV rfl)
    clear Hca RR RA RS RH RF hS1
    simp only [List.length_nil]
    have q0 : Va.cell? ⟨w.heap.size, 0, none⟩ = _ := hP.cell rfl
    have q1 : Va.cell? ⟨w.heap.size, 1, none⟩ = _ := hP.cell rfl
    have q2 : Va.cell? ⟨w.heap.size, 2, none⟩ = _ := hP.cell rfl
    have q3 : Va.cell? ⟨w.heap.size, 3, none⟩ = _ := hP.cell rfl
    have q4 : Va.cell? ⟨w.heap.size, 4, none⟩ = _ := hP.cell rfl
    have q5 : Va.cell? ⟨w.heap.size, 5, none⟩ = _ := hP.cell rfl
    have q6 : Va.cell? ⟨w.heap.size, 6, none⟩ = _ := hP.cell rfl
    go_wp2_with fail
    refine (RR1.out _ hb).mono ?_; rintro e Vb ⟨rfl, hx⟩
    replace hb := ext_trans hb hx
    clear hx
    go_wp2_with fail
    refine (awake_any _).mono ?_; rintro e Vc ⟨rfl, hx⟩
    replace hb := ext_trans hb hx
    go_wp2
    go_ret
    exact ⟨rfl, hb⟩
  · subst h0
    have RR1 := Lib.hid (fun V hV => RR.out V hV rfl)
    have RA1 := Lib.hid (fun V hV => RA.out V hV rfl rfl)
    have RS1 := Lib.hid (fun V hV => RS.out V hV rfl rfl)
    clear Hca RR RA RS
    have q0 : Va.cell? ⟨w.heap.size, 0, none⟩ = _ := hP.cell rfl
    have q1 : Va.cell? ⟨w.heap.size, 1, none⟩ = _ := hP.cell rfl
    have q2 : Va.cell? ⟨w.heap.size, 2, none⟩ = _ := hP.cell rfl
    have q3 : Va.cell? ⟨w.heap.size, 3, none⟩ = _ := hP.cell rfl
    have q4 : Va.cell? ⟨w.heap.size, 4, none⟩ = _ := hP.cell rfl
    have q5 : Va.cell? ⟨w.heap.size, 5, none⟩ = _ := hP.cell rfl
    have q6 : Va.cell? ⟨w.heap.size, 6, none⟩ = _ := hP.cell rfl
    go_wp2_with fail
    refine (RR1.out _ hb).mono ?_; rintro e Vb ⟨rfl, hx⟩
    replace hb := ext_trans hb hx
    replace hP := hP.ext hx
    replace hS1 := hS1.ext hx
    clear hx
    clear q0 q1 q2 q3 q4 q5 q6
    have q0 : Vb.cell? ⟨w.heap.size, 0, none⟩ = _ := hP.cell rfl
    have q1 : Vb.cell? ⟨w.heap.size, 1, none⟩ = _ := hP.cell rfl
    have q2 : Vb.cell? ⟨w.heap.size, 2, none⟩ = _ := hP.cell rfl
    have q3 : Vb.cell? ⟨w.heap.size, 3, none⟩ = _ := hP.cell rfl
    have q4 : Vb.cell? ⟨w.heap.size, 4, none⟩ = _ := hP.cell rfl
    have q5 : Vb.cell? ⟨w.heap.size, 5, none⟩ = _ := hP.cell rfl
    have q6 : Vb.cell? ⟨w.heap.size, 6, none⟩ = _ := hP.cell rfl
    go_upto_region 10 with fail
    go_wp2_with fail
    refine (RA1.out _ hb).mono ?_; rintro e Vc ⟨rfl, hx⟩
    replace hb := ext_trans hb hx
    replace hP := hP.ext hx
    replace hS1 := hS1.ext hx
    clear hx RA1 RR1
    clear q0 q1 q2 q3 q4 q5 q6
    have q0 : Vc.cell? ⟨w.heap.size, 0, none⟩ = _ := hP.cell rfl
    have q1 : Vc.cell? ⟨w.heap.size, 1, none⟩ = _ := hP.cell rfl
    have q2 : Vc.cell? ⟨w.heap.size, 2, none⟩ = _ := hP.cell rfl
    have q3 : Vc.cell? ⟨w.heap.size, 3, none⟩ = _ := hP.cell rfl
    have q4 : Vc.cell? ⟨w.heap.size, 4, none⟩ = _ := hP.cell rfl
    have q5 : Vc.cell? ⟨w.heap.size, 5, none⟩ = _ := hP.cell rfl
    have q6 : Vc.cell? ⟨w.heap.size, 6, none⟩ = _ := hP.cell rfl
    go_wp2_with fail
    refine (RH.out _).mono ?_; rintro e Vd ⟨rfl, hx⟩
    replace hb := ext_trans hb hx
    replace hP := hP.ext hx
    replace hS1 := hS1.ext hx
    clear hx RH
    clear q0 q1 q2 q3 q4 q5 q6
    go_upto_region 13 with fail
    go_wp2_with fail
    refine (RF.out _ hb).mono ?_; rintro e Ve ⟨rfl, rfl⟩
    clear RF
    rcases hroad with ⟨h2, rfl, rfl⟩ | ⟨rfl, rfl, rfl⟩
    · have h00 := bne_iff_ne.2 h2
      clear h2 RS1 hS1
      simp only [List.length_nil]
      go_wp2_with fail
      refine (awake_any _).mono ?_; rintro e Vf ⟨rfl, hx⟩
      replace hb := ext_trans hb hx
      go_wp2
      go_ret
      exact ⟨rfl, hb⟩
    · have RS2 := Lib.hid (fun V hV => RS1.out V hV rfl)
      clear RS1
      have q0 : Vd.cell? ⟨w.heap.size, 0, none⟩ = _ := hP.cell rfl
      have q1 : Vd.cell? ⟨w.heap.size, 1, none⟩ = _ := hP.cell rfl
      have q2 : Vd.cell? ⟨w.heap.size, 2, none⟩ = _ := hP.cell rfl
      have q3 : Vd.cell? ⟨w.heap.size, 3, none⟩ = _ := hP.cell rfl
      have q4 : Vd.cell? ⟨w.heap.size, 4, none⟩ = _ := hP.cell rfl
      have q5 : Vd.cell? ⟨w.heap.size, 5, none⟩ = _ := hP.cell rfl
      have q6 : Vd.cell? ⟨w.heap.size, 6, none⟩ = _ := hP.cell rfl
      go_wp2_with fail
      refine (RS2.out _ hb).mono ?_; rintro e Vf ⟨⟨X1, x1, rfl, hX1⟩, hx⟩
      replace hb := ext_trans hb hx
      replace hS1 := hS1.ext hx
      clear hx RS2
      clear q0 q1 q2 q3 q4 q5 q6
      have CE := Lib.hid (ints_any S1 X1 sl.length sl.length s1 x1 sl sl Vf rfl rfl (by have := HSl.out; omega) (by have := HSl.out; omega) hS1 hX1)
      rw [show decide (sl = sl) = true from decide_eq_true rfl] at CE
      go_wp2_with fail
      refine (CE.out).mono ?_; rintro e Vg ⟨rfl, hx⟩
      replace hb := ext_trans hb hx
      clear hx
      go_wp2_with fail
      refine (awake_any _).mono ?_; rintro e Vh ⟨rfl, hx⟩
      replace hb := ext_trans hb hx
      go_wp2
      go_ret
      exact ⟨rfl, hb⟩
end Go.Proofs.Ytbpmfaibcibleaa

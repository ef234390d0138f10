/- The law WagonRight: its walk. (Printed by mk_rgta.py.) -/
import Derived.Test.YtbpmfaibcibleaaLawA
import Derived.Test.YtbpmfaibcibleaaLhpK
namespace Go.Proofs.Ytbpmfaibcibleaa
open Go.RowKit Go.Bs Go.Wg Go.Pl Go.Sort
theorem cut_rows {n : Nat} {rs : List RwV} (h : cutB n (rows rs) = true) (hn : rs.length = n) : rs.length ≤ 10 ∧ (∀ x ∈ rs, x.r.length ≤ 20) ∧ (rows rs).flatten.length ≤ 200 := by
  unfold cutB at h
  simp only [Bool.and_eq_true, decide_eq_true_eq, List.all_eq_true] at h
  have h1 : ∀ x ∈ rs, x.r.length ≤ 20 := fun x hx => h.1 x.r (List.mem_map.2 ⟨x, hx, rfl⟩)
  have key : ∀ l : List RwV, (∀ x ∈ l, x.r.length ≤ 20) → (rows l).flatten.length ≤ l.length * 20 := by
    intro l
    induction l with
    | nil => intro _; simp [rows]
    | cons a l ih =>
      intro H
      have h2 := ih fun x hx => H x (by simp [hx])
      have h3 := H a (by simp)
      unfold rows at h2 ⊢
      simp only [List.map_cons, List.flatten_cons, List.length_append, List.length_cons]
      omega
  have h4 := key rs h1
  have h5 := h.2
  exact ⟨by omega, h1, by omega⟩
theorem flat_of_rows {a b : List RwV} (h : rows a = rows b) {N : Nat} (hb : (rows b).flatten.length ≤ N) : (rows a).flatten.length ≤ N := by rw [h]; exact hb
theorem rightC (A : Option Addr) (c : Nat) (h ca em re ax dk : Int) (l : List Int) (T : Option Addr) (cT : Nat) (ts : List Th) (R : Option Addr) (cR : Nat) (rs : List RwV) (P : List (List Int)) (V : World) (hl : l.length ≤ 1000000) (hm : ts.length ≤ 1000000) (hk : rs.length ≤ 1000000) (hF : (rows rs).flatten.length ≤ 1000000) (hA : Cells V A 1 Go.Bs.encI l) (hT : Cells V T 4 Th.enc ts) (hM : RwM V R rs) (hP : rows rs = P) :
    Calls Try.prog 35 #[.agg #[.slice A l.length c, .int .i64 h, .int .i64 ca, .int .i64 em, .int .i64 re, .int .i64 ax, .int .i64 dk], .slice T ts.length cT, .slice R rs.length cR] V fun e w' => e = .returned (.bool (rightE ⟨l, h, ca, em, re, ax, dk⟩ ts P)) ∧ Below V.heap.size V w' := by
  rw [← hP]
  exact Right_any ⟨⟨⟨l, h, ca, em, re, ax, dk⟩, A, c⟩, T, cT⟩ ts R rs.length cR rs V (by simp only; omega) (by omega) hA hT rfl (by omega) hM hF
theorem loadC (A : Option Addr) (c : Nat) (h ca em re ax dk : Int) (l : List Int) (T : Option Addr) (cT : Nat) (ts : List Th) (R : Option Addr) (cR : Nat) (rs : List RwV) (P : List (List Int)) (V : World) (hl : l.length ≤ 1000000) (hm : ts.length ≤ 1000000) (hk : rs.length ≤ 1000000) (hF : (rows rs).flatten.length ≤ 1000000) (hA : Cells V A 1 Go.Bs.encI l) (hT : Cells V T 4 Th.enc ts) (hM : RwM V R rs) (hP : rows rs = P) :
    Calls Try.prog 39 #[.agg #[.slice A l.length c, .int .i64 h, .int .i64 ca, .int .i64 em, .int .i64 re, .int .i64 ax, .int .i64 dk], .slice T ts.length cT, .slice R rs.length cR] V fun e w' => e = .returned (.bool (loadE ⟨l, h, ca, em, re, ax, dk⟩ ts P)) ∧ Below V.heap.size V w' := by
  rw [← hP]
  exact Loadable_any ⟨⟨⟨l, h, ca, em, re, ax, dk⟩, A, c⟩, T, cT⟩ ts R rs.length cR rs V (by simp only; omega) (by omega) hA hT rfl (by omega) hM hF
theorem checkC (A : Option Addr) (c : Nat) (h ca em re ax dk : Int) (l : List Int) (V : World) (hl : l.length ≤ 1000000) (hA : Cells V A 1 Go.Bs.encI l) :
    Calls Try.prog 50 #[.agg #[.slice A l.length c, .int .i64 h, .int .i64 ca, .int .i64 em, .int .i64 re, .int .i64 ax, .int .i64 dk]] V fun e w' => e = .returned (.int .i64 (if Lo.okB ⟨l, h, ca, em, re, ax, dk⟩ then 0 else 1)) ∧ Below V.heap.size V w' := CheckLorry_any ⟨⟨l, h, ca, em, re, ax, dk⟩, A, c⟩ V (by simp only; omega) hA
set_option maxRecDepth 100000 in
set_option maxHeartbeats 4000000 in
theorem right_law (A : Option Addr) (n c : Nat) (h ca em re ax dk : Int) (l : List Int) (T : Option Addr) (m cT : Nat) (ts : List Th) (R : Option Addr) (k cR : Nat) (rs : List RwV) (w : World) (hn : l.length = n) (hn0 : n ≤ 9223372036854775807) (hd : Cells w A 1 Go.Bs.encI l) (hm : ts.length = m) (hm0 : m ≤ 9223372036854775807) (ht : Cells w T 4 Th.enc ts) (hk : rs.length = k) (hk0 : k ≤ 9223372036854775807) (hM : RwM w R rs) :
    Calls Try.prog 11 #[.agg #[.slice A n c, .int .i64 h, .int .i64 ca, .int .i64 em, .int .i64 re, .int .i64 ax, .int .i64 dk], .slice T m cT, .slice R k cR] w fun e w' => e = .returned (.bool true) ∧ Below w.heap.size w w' := by
  subst hn hm hk
  have CT := Lib.hid (fun V => Thin_any A l.length c h ca em re ax dk V)
  have CCu := Lib.hid (fun V (hV : Below w.heap.size w V) => cut_any R rs.length cR rs V rfl (by omega) (hM.hdr.ext hV))
  by_cases hg : l.length ≤ 10 ∧ ts.length ≤ 20 ∧ cutB rs.length (rows rs) = true
  case neg =>
    generalize hb1 : decide (l.length ≤ 10) = b1 at *
    generalize hb2 : cutB rs.length (rows rs) = b2 at *
    have hg2 : b1 = false ∨ (b1 = true ∧ ¬ ts.length ≤ 20) ∨ (b1 = true ∧ ts.length ≤ 20 ∧ b2 = false) := by
      cases b1
      · exact .inl rfl
      · have := of_decide_eq_true hb1
        by_cases h17 : ts.length ≤ 20
        · cases b2
          · exact .inr (.inr ⟨rfl, h17, rfl⟩)
          · exact absurd ⟨this, h17, rfl⟩ hg
        · exact .inr (.inl ⟨rfl, h17⟩)
    clear hg hb1 hb2
    have hb := ext_alloc w (.cells #[.slice A l.length c, .int .i64 h, .int .i64 ca, .int .i64 em, .int .i64 re, .int .i64 ax, .int .i64 dk] 37)
    have hP := Blk.new w 37 [.slice A l.length c, .int .i64 h, .int .i64 ca, .int .i64 em, .int .i64 re, .int .i64 ax, .int .i64 dk]
    go_enter Try.func11, Try.ntmps11
    go_upto_region 1 with fail
    change Blk (w.alloc (.cells #[.slice A l.length c, .int .i64 h, .int .i64 ca, .int .i64 em, .int .i64 re, .int .i64 ax, .int .i64 dk] 37)) _ _ _ at hP
    change Below w.heap.size w (w.alloc (.cells #[.slice A l.length c, .int .i64 h, .int .i64 ca, .int .i64 em, .int .i64 re, .int .i64 ax, .int .i64 dk] 37)) at hb
    generalize w.alloc (.cells #[.slice A l.length c, .int .i64 h, .int .i64 ca, .int .i64 em, .int .i64 re, .int .i64 ax, .int .i64 dk] 37) = W0 at *
    have q0 : W0.cell? ⟨w.heap.size, 0, none⟩ = _ := hP.cell rfl
    have q1 : W0.cell? ⟨w.heap.size, 1, none⟩ = _ := hP.cell rfl
    have q2 : W0.cell? ⟨w.heap.size, 2, none⟩ = _ := hP.cell rfl
    have q3 : W0.cell? ⟨w.heap.size, 3, none⟩ = _ := hP.cell rfl
    have q4 : W0.cell? ⟨w.heap.size, 4, none⟩ = _ := hP.cell rfl
    have q5 : W0.cell? ⟨w.heap.size, 5, none⟩ = _ := hP.cell rfl
    have q6 : W0.cell? ⟨w.heap.size, 6, none⟩ = _ := hP.cell rfl
    go_wp2_with fail
    refine (CT.out _).mono ?_; rintro e W1 ⟨rfl, hx⟩
    replace hb := ext_trans hb hx
    clear hx
    clear q0 q1 q2 q3 q4 q5 q6
    rcases hg2 with rfl | ⟨rfl, h17⟩ | ⟨rfl, h17, rfl⟩
    · clear CT
      go_wp2_with fail
      refine (awake_any _).mono ?_; rintro e Wz ⟨rfl, hx⟩
      replace hb := ext_trans hb hx
      go_wp2
      go_ret
      exact ⟨rfl, hb⟩
    · have h17' : (20 : Int) < (ts.length : Int) := by omega
      have h17'' : 20 < ts.length := by omega
      go_wp2_with fail
      refine (awake_any _).mono ?_; rintro e Wz ⟨rfl, hx⟩
      replace hb := ext_trans hb hx
      go_wp2
      go_ret
      exact ⟨rfl, hb⟩
    · have h17' : ¬ (20 : Int) < (ts.length : Int) := by omega
      have h17'' : ¬ 20 < ts.length := by omega
      go_wp2_with fail
      refine (CCu.out _ hb).mono ?_; rintro e W2 ⟨rfl, rfl⟩
      go_wp2_with fail
      refine (awake_any _).mono ?_; rintro e Wz ⟨rfl, hx⟩
      replace hb := ext_trans hb hx
      go_wp2
      go_ret
      exact ⟨rfl, hb⟩
  case pos =>
  obtain ⟨h10, h17, hcut⟩ := hg
  rw [show decide (l.length ≤ 10) = true from decide_eq_true h10] at CT
  rw [hcut] at CCu
  obtain ⟨hr10, hr20, hrF⟩ := cut_rows hcut rfl
  have hrl : ∀ x ∈ rs, x.r.length ≤ 1000000000 := fun x hx => by have := hr20 x hx; omega
  clear hcut
  have h17' : ¬ (20 : Int) < (ts.length : Int) := by omega
  have CL := Lib.hid (fun V (hV : Below w.heap.size w V) => lorryC A c h ca em re ax dk l V (by omega) (hd.ext hV))
  have CTh := Lib.hid (fun V (hV : Below w.heap.size w V) => thingsC T cT ts V (by omega) (ht.ext hV))
  have CLa := Lib.hid (fun V (hV : Below w.heap.size w V) => lanesC R cR rs V (by omega) (hM.ext hV) hrl)
  have CRl := Lib.hid (fun V (hV : Below w.heap.size w V) => rlorry_any A l.length c h ca em re ax dk l V rfl (by omega) (hd.ext hV))
  have CF := Lib.hid (fun V (hV : Below w.heap.size w V) => Fault_any A l.length c h ca em re ax dk l T ts.length cT ts V rfl (by omega) (hd.ext hV) rfl (by omega) (ht.ext hV))
  have CK := Lib.hid (fun V (A1 : Option Addr) (d1 : Nat) (h6 : Cells V A1 1 Go.Bs.encI l) => checkC A1 d1 h ca em re ax dk l V (by omega) h6)
  have CR := Lib.hid (fun V (A1 : Option Addr) (d1 : Nat) (T1 : Option Addr) (e1 : Nat) (R1 : Option Addr) (f1 : Nat) (r1 : List RwV) (h8 : rows r1 = rows rs) (h5 : r1.length = rs.length) (h6 : Cells V A1 1 Go.Bs.encI l) (h7 : Cells V T1 4 Th.enc ts) (hM1 : RwM V R1 r1) => rightC A1 d1 h ca em re ax dk l T1 e1 ts R1 f1 r1 (rows rs) V (by omega) (by omega) (by omega) (flat_of_rows h8 (by omega)) h6 h7 hM1 h8)
  have CO := Lib.hid (fun V (A1 : Option Addr) (d1 : Nat) (T1 : Option Addr) (e1 : Nat) (R1 : Option Addr) (f1 : Nat) (r1 : List RwV) (h8 : rows r1 = rows rs) (h5 : r1.length = rs.length) (h6 : Cells V A1 1 Go.Bs.encI l) (h7 : Cells V T1 4 Th.enc ts) (hM1 : RwM V R1 r1) => loadC A1 d1 h ca em re ax dk l T1 e1 ts R1 f1 r1 (rows rs) V (by omega) (by omega) (by omega) (flat_of_rows h8 (by omega)) h6 h7 hM1 h8)
  have hcase : (checkE ⟨l, h, ca, em, re, ax, dk⟩ ts = 0 ∧ Lo.okB ⟨l, h, ca, em, re, ax, dk⟩ = true ∧ ts.length ≤ 14 ∧ (∀ t ∈ ts, t.Ok) ∧ rightE ⟨l, h, ca, em, re, ax, dk⟩ ts (rows rs) = rightB ⟨l, h, ca, em, re, ax, dk⟩ ts (rows rs) ∧ loadE ⟨l, h, ca, em, re, ax, dk⟩ ts (rows rs) = (rightB ⟨l, h, ca, em, re, ax, dk⟩ ts (rows rs) && loadB (rows rs))) ∨
      (checkE ⟨l, h, ca, em, re, ax, dk⟩ ts ≠ 0 ∧ rightE ⟨l, h, ca, em, re, ax, dk⟩ ts (rows rs) = false ∧ loadE ⟨l, h, ca, em, re, ax, dk⟩ ts (rows rs) = false) := by
    by_cases h0 : checkE ⟨l, h, ca, em, re, ax, dk⟩ ts = 0
    · obtain ⟨h1, h2, h3⟩ := checkE_zero.1 h0
      refine .inl ⟨h0, Lo.ok_iff.2 h1, h2, h3, ?_, ?_⟩
      · unfold rightE; rw [decide_eq_true h0, Bool.true_and]
      · unfold loadE rightE; rw [decide_eq_true h0, Bool.true_and]
    · refine .inr ⟨h0, ?_, ?_⟩
      · unfold rightE; rw [decide_eq_false h0, Bool.false_and]
      · unfold loadE rightE; rw [decide_eq_false h0, Bool.false_and, Bool.false_and]
  rcases hcase with ⟨h0, hok, h14, hts, hre, hle⟩ | ⟨h0, hre, hle⟩
  · rw [hre] at CR
    rw [hle] at CO
    rw [hok] at CK CRl
    rw [h0] at CF
    have RR := Lib.hid (fun V (hV : Below w.heap.size w V) => RightR_any A l.length c h ca em re ax dk l T ts.length cT ts R rs.length cR rs V rfl (by omega) (hd.ext hV) rfl (by omega) hts (ht.ext hV) rfl (by omega) (hM.ext hV) (by omega))
    have RO := Lib.hid (fun V (hV : Below w.heap.size w V) => LoadR_any A l.length c h ca em re ax dk l T ts.length cT ts R rs.length cR rs V rfl (by omega) (hd.ext hV) rfl (by omega) hts (ht.ext hV) rfl (by omega) (hM.ext hV) (by omega))
    rw [if_pos rfl] at CK
    clear h0 hok hre hle hts h14 hd ht hM hr10 hr20 hrF hrl
    have hfin : ((0 : Int) == 0) = true := rfl
    generalize rightB ⟨l, h, ca, em, re, ax, dk⟩ ts (rows rs) = rb at *
    generalize loadB (rows rs) = lb at *
    have hb := ext_alloc w (.cells #[.slice A l.length c, .int .i64 h, .int .i64 ca, .int .i64 em, .int .i64 re, .int .i64 ax, .int .i64 dk] 37)
    have hP := Blk.new w 37 [.slice A l.length c, .int .i64 h, .int .i64 ca, .int .i64 em, .int .i64 re, .int .i64 ax, .int .i64 dk]
    go_enter Try.func11, Try.ntmps11
    go_upto_region 1 with fail
    change Blk (w.alloc (.cells #[.slice A l.length c, .int .i64 h, .int .i64 ca, .int .i64 em, .int .i64 re, .int .i64 ax, .int .i64 dk] 37)) _ _ _ at hP
    change Below w.heap.size w (w.alloc (.cells #[.slice A l.length c, .int .i64 h, .int .i64 ca, .int .i64 em, .int .i64 re, .int .i64 ax, .int .i64 dk] 37)) at hb
    generalize w.alloc (.cells #[.slice A l.length c, .int .i64 h, .int .i64 ca, .int .i64 em, .int .i64 re, .int .i64 ax, .int .i64 dk] 37) = W0 at *
    have q0 : W0.cell? ⟨w.heap.size, 0, none⟩ = _ := hP.cell rfl
    have q1 : W0.cell? ⟨w.heap.size, 1, none⟩ = _ := hP.cell rfl
    have q2 : W0.cell? ⟨w.heap.size, 2, none⟩ = _ := hP.cell rfl
    have q3 : W0.cell? ⟨w.heap.size, 3, none⟩ = _ := hP.cell rfl
    have q4 : W0.cell? ⟨w.heap.size, 4, none⟩ = _ := hP.cell rfl
    have q5 : W0.cell? ⟨w.heap.size, 5, none⟩ = _ := hP.cell rfl
    have q6 : W0.cell? ⟨w.heap.size, 6, none⟩ = _ := hP.cell rfl
    go_wp2_with fail
    refine (CT.out _).mono ?_; rintro e W1 ⟨rfl, hx⟩
    replace hb := ext_trans hb hx
    replace hP := hP.ext hx
    clear hx CT
    clear q0 q1 q2 q3 q4 q5 q6
    go_wp2_with fail
    refine (CCu.out _ hb).mono ?_; rintro e W2 ⟨rfl, rfl⟩
    clear CCu
    have q0 : W1.cell? ⟨w.heap.size, 0, none⟩ = _ := hP.cell rfl
    have q1 : W1.cell? ⟨w.heap.size, 1, none⟩ = _ := hP.cell rfl
    have q2 : W1.cell? ⟨w.heap.size, 2, none⟩ = _ := hP.cell rfl
    have q3 : W1.cell? ⟨w.heap.size, 3, none⟩ = _ := hP.cell rfl
    have q4 : W1.cell? ⟨w.heap.size, 4, none⟩ = _ := hP.cell rfl
    have q5 : W1.cell? ⟨w.heap.size, 5, none⟩ = _ := hP.cell rfl
    have q6 : W1.cell? ⟨w.heap.size, 6, none⟩ = _ := hP.cell rfl
    go_wp2_with fail
    refine (CF.out _ hb).mono ?_; rintro e W3 ⟨rfl, hx⟩
    replace hb := ext_trans hb hx
    replace hP := hP.ext hx
    clear hx CF
    clear q0 q1 q2 q3 q4 q5 q6
    go_upto_region 4 with fail
    refine Dr.wp_region_plan 55 [] (.q [0, 4] (.e1 1 (.e1 2 (.q [3] (.e1 5 (.q [6, 7, 8, 12] (.e1 9 (.e1 10 (.q [11] (.e1 13 (.q [14, 15, 16, 17, 18, 20, 22, 25] (.e1 19 (.e1 21 (.e1 23 (.e1 24 (.q [26, 27, 28, 29] (.e1 30 (.q [31, 32, 33, 34, 35, 37, 39, 42] (.e1 36 (.e1 38 (.e1 40 (.e1 41 (.q [43, 44, 45, 46] (.e1 47 (.q [48, 49, 50, 51] (.e1 52 (.q [53, 54] .done))))))))))))))))))))))))))) (by kernel_rfl) (by kernel_rfl) ?_
    replace hb := hb.drew
    replace hP := hP.drew
    generalize World.drew W3 = V0 at *
    have q0 := Dr.cell0 (hP.cell (i := 0) rfl)
    have q1 := Dr.cell0 (hP.cell (i := 1) rfl)
    have q2 := Dr.cell0 (hP.cell (i := 2) rfl)
    have q3 := Dr.cell0 (hP.cell (i := 3) rfl)
    have q4 := Dr.cell0 (hP.cell (i := 4) rfl)
    have q5 := Dr.cell0 (hP.cell (i := 5) rfl)
    have q6 := Dr.cell0 (hP.cell (i := 6) rfl)
    with_reducible refine Dr.plan_q (l := [_, _]) (by with_unfolding_all exact rfl) (fun K hK => ?_)
    iterate 2 (go_big_quiet_step (fail))
    refine wpQuiet_nil (hK _ ?_); clear hK K
    clear q0 q1 q2 q3 q4 q5 q6
    refine Dr.plan_e rfl (by rfl) (fun K hK => ?_)
    go_wp2_with fail
    refine (CL.out _ hb).mono ?_; rintro e V1 ⟨⟨A1, d1, rfl, hA1⟩, hx⟩
    refine hK _ _ (.of hx) ?_; clear hK K
    replace hb := ext_trans hb hx
    replace hP := hP.ext hx
    clear hx
    refine Dr.plan_e rfl (by rfl) (fun K hK => ?_)
    go_wp2_with fail
    refine (CK.out _ A1 d1 hA1).mono ?_; rintro e V2 ⟨rfl, hx⟩
    refine hK _ _ (.of hx) ?_; clear hK K
    replace hb := ext_trans hb hx
    replace hP := hP.ext hx
    clear hx hA1
    with_reducible refine Dr.plan_q (l := [_]) (by with_unfolding_all exact rfl) (fun K hK => ?_)
    iterate 1 (go_big_quiet_step (fail))
    refine wpQuiet_nil (hK _ ?_); clear hK K
    refine Dr.plan_e rfl (by rfl) (fun K hK => ?_)
    go_wp2_with fail
    refine (CRl.out _ hb).mono ?_; rintro e V3 ⟨rfl, hx⟩
    refine hK _ _ (.of hx) ?_; clear hK K
    replace hb := ext_trans hb hx
    replace hP := hP.ext hx
    clear hx
    have q0 := Dr.cell0 (hP.cell (i := 0) rfl)
    have q1 := Dr.cell0 (hP.cell (i := 1) rfl)
    have q2 := Dr.cell0 (hP.cell (i := 2) rfl)
    have q3 := Dr.cell0 (hP.cell (i := 3) rfl)
    have q4 := Dr.cell0 (hP.cell (i := 4) rfl)
    have q5 := Dr.cell0 (hP.cell (i := 5) rfl)
    have q6 := Dr.cell0 (hP.cell (i := 6) rfl)
    with_reducible refine Dr.plan_q (l := [_, _, _, _]) (by with_unfolding_all exact rfl) (fun K hK => ?_)
    iterate 4 (go_big_quiet_step (fail))
    refine wpQuiet_nil (hK _ ?_); clear hK K
    clear q0 q1 q2 q3 q4 q5 q6
    refine Dr.plan_e rfl (by rfl) (fun K hK => ?_)
    go_wp2_with fail
    refine (CL.out _ hb).mono ?_; rintro e V4 ⟨⟨A1, d1, rfl, hA1⟩, hx⟩
    refine hK _ _ (.of hx) ?_; clear hK K
    replace hb := ext_trans hb hx
    replace hP := hP.ext hx
    clear hx
    refine Dr.plan_e rfl (by rfl) (fun K hK => ?_)
    go_wp2_with fail
    refine (CK.out _ A1 d1 hA1).mono ?_; rintro e V5 ⟨rfl, hx⟩
    refine hK _ _ (.of hx) ?_; clear hK K
    replace hb := ext_trans hb hx
    replace hP := hP.ext hx
    clear hx hA1 CK
    with_reducible refine Dr.plan_q (l := [_]) (by with_unfolding_all exact rfl) (fun K hK => ?_)
    iterate 1 (go_big_quiet_step (fail))
    refine wpQuiet_nil (hK _ ?_); clear hK K
    refine Dr.plan_e rfl (by rfl) (fun K hK => ?_)
    go_wp2_with fail
    refine (CRl.out _ hb).mono ?_; rintro e V6 ⟨rfl, hx⟩
    refine hK _ _ (.of hx) ?_; clear hK K
    replace hb := ext_trans hb hx
    replace hP := hP.ext hx
    clear hx CRl
    have q0 := Dr.cell0 (hP.cell (i := 0) rfl)
    have q1 := Dr.cell0 (hP.cell (i := 1) rfl)
    have q2 := Dr.cell0 (hP.cell (i := 2) rfl)
    have q3 := Dr.cell0 (hP.cell (i := 3) rfl)
    have q4 := Dr.cell0 (hP.cell (i := 4) rfl)
    have q5 := Dr.cell0 (hP.cell (i := 5) rfl)
    have q6 := Dr.cell0 (hP.cell (i := 6) rfl)
    with_reducible refine Dr.plan_q (l := [_, _, _, _, _, _, _, _]) (by with_unfolding_all exact rfl) (fun K hK => ?_)
    iterate 8 (go_big_quiet_step (fail))
    refine wpQuiet_nil (hK _ ?_); clear hK K
    clear q0 q1 q2 q3 q4 q5 q6
    refine Dr.plan_e rfl (by rfl) (fun K hK => ?_)
    go_wp2_with fail
    refine (CL.out _ hb).mono ?_; rintro e V7 ⟨⟨A1, d1, rfl, hA1⟩, hx⟩
    refine hK _ _ (.of hx) ?_; clear hK K
    replace hb := ext_trans hb hx
    replace hP := hP.ext hx
    clear hx
    refine Dr.plan_e rfl (by rfl) (fun K hK => ?_)
    go_wp2_with fail
    refine (CTh.out _ hb).mono ?_; rintro e V8 ⟨⟨T1, e1, rfl, hT1⟩, hx⟩
    refine hK _ _ (.of hx) ?_; clear hK K
    replace hb := ext_trans hb hx
    replace hP := hP.ext hx
    replace hA1 := hA1.ext hx
    clear hx
    refine Dr.plan_e rfl (by rfl) (fun K hK => ?_)
    go_wp2_with fail
    refine (CLa.out _ hb).mono ?_; rintro e V9 ⟨⟨R1, f1, r1, rfl, hr1, hR1⟩, hx⟩
    refine hK _ _ (.of hx) ?_; clear hK K
    replace hb := ext_trans hb hx
    replace hP := hP.ext hx
    replace hA1 := hA1.ext hx
    replace hT1 := hT1.ext hx
    clear hx
    have hrn : r1.length = rs.length := by rw [← rows_len, hr1, rows_len]
    have CR1 := CR.out V9 A1 d1 T1 e1 R1 f1 r1 hr1 hrn hA1 hT1 hR1
    rw [hrn] at CR1
    replace CR1 := Lib.hid CR1
    clear hr1 hrn hA1 hT1 hR1
    refine Dr.plan_e rfl (by rfl) (fun K hK => ?_)
    go_wp2_with fail
    refine (CR1.out).mono ?_; rintro e Va ⟨rfl, hx⟩
    refine hK _ _ (.of hx) ?_; clear hK K
    replace hb := ext_trans hb hx
    replace hP := hP.ext hx
    clear hx CR CR1
    have q0 := Dr.cell0 (hP.cell (i := 0) rfl)
    have q1 := Dr.cell0 (hP.cell (i := 1) rfl)
    have q2 := Dr.cell0 (hP.cell (i := 2) rfl)
    have q3 := Dr.cell0 (hP.cell (i := 3) rfl)
    have q4 := Dr.cell0 (hP.cell (i := 4) rfl)
    have q5 := Dr.cell0 (hP.cell (i := 5) rfl)
    have q6 := Dr.cell0 (hP.cell (i := 6) rfl)
    with_reducible refine Dr.plan_q (l := [_, _, _, _]) (by with_unfolding_all exact rfl) (fun K hK => ?_)
    iterate 4 (go_big_quiet_step (fail))
    refine wpQuiet_nil (hK _ ?_); clear hK K
    clear q0 q1 q2 q3 q4 q5 q6
    refine Dr.plan_e rfl (by rfl) (fun K hK => ?_)
    go_wp2_with fail
    refine (RR.out _ hb).mono ?_; rintro e Vb ⟨rfl, hx⟩
    refine hK _ _ (.of hx) ?_; clear hK K
    replace hb := ext_trans hb hx
    replace hP := hP.ext hx
    clear hx RR
    have q0 := Dr.cell0 (hP.cell (i := 0) rfl)
    have q1 := Dr.cell0 (hP.cell (i := 1) rfl)
    have q2 := Dr.cell0 (hP.cell (i := 2) rfl)
    have q3 := Dr.cell0 (hP.cell (i := 3) rfl)
    have q4 := Dr.cell0 (hP.cell (i := 4) rfl)
    have q5 := Dr.cell0 (hP.cell (i := 5) rfl)
    have q6 := Dr.cell0 (hP.cell (i := 6) rfl)
    with_reducible refine Dr.plan_q (l := [_, _, _, _, _, _, _, _]) (by with_unfolding_all exact rfl) (fun K hK => ?_)
    iterate 8 (go_big_quiet_step (fail))
    refine wpQuiet_nil (hK _ ?_); clear hK K
    clear q0 q1 q2 q3 q4 q5 q6
    refine Dr.plan_e rfl (by rfl) (fun K hK => ?_)
    go_wp2_with fail
    refine (CL.out _ hb).mono ?_; rintro e Vc ⟨⟨A1, d1, rfl, hA1⟩, hx⟩
    refine hK _ _ (.of hx) ?_; clear hK K
    replace hb := ext_trans hb hx
    replace hP := hP.ext hx
    clear hx CL
    refine Dr.plan_e rfl (by rfl) (fun K hK => ?_)
    go_wp2_with fail
    refine (CTh.out _ hb).mono ?_; rintro e Vd ⟨⟨T1, e1, rfl, hT1⟩, hx⟩
    refine hK _ _ (.of hx) ?_; clear hK K
    replace hb := ext_trans hb hx
    replace hP := hP.ext hx
    replace hA1 := hA1.ext hx
    clear hx CTh
    refine Dr.plan_e rfl (by rfl) (fun K hK => ?_)
    go_wp2_with fail
    refine (CLa.out _ hb).mono ?_; rintro e Ve ⟨⟨R1, f1, r1, rfl, hr1, hR1⟩, hx⟩
    refine hK _ _ (.of hx) ?_; clear hK K
    replace hb := ext_trans hb hx
    replace hP := hP.ext hx
    replace hA1 := hA1.ext hx
    replace hT1 := hT1.ext hx
    clear hx CLa
    have hrn : r1.length = rs.length := by rw [← rows_len, hr1, rows_len]
    have CO1 := CO.out Ve A1 d1 T1 e1 R1 f1 r1 hr1 hrn hA1 hT1 hR1
    rw [hrn] at CO1
    replace CO1 := Lib.hid CO1
    clear hr1 hrn hA1 hT1 hR1
    refine Dr.plan_e rfl (by rfl) (fun K hK => ?_)
    go_wp2_with fail
    refine (CO1.out).mono ?_; rintro e Vf ⟨rfl, hx⟩
    refine hK _ _ (.of hx) ?_; clear hK K
    replace hb := ext_trans hb hx
    replace hP := hP.ext hx
    clear hx CO CO1
    have q0 := Dr.cell0 (hP.cell (i := 0) rfl)
    have q1 := Dr.cell0 (hP.cell (i := 1) rfl)
    have q2 := Dr.cell0 (hP.cell (i := 2) rfl)
    have q3 := Dr.cell0 (hP.cell (i := 3) rfl)
    have q4 := Dr.cell0 (hP.cell (i := 4) rfl)
    have q5 := Dr.cell0 (hP.cell (i := 5) rfl)
    have q6 := Dr.cell0 (hP.cell (i := 6) rfl)
    with_reducible refine Dr.plan_q (l := [_, _, _, _]) (by with_unfolding_all exact rfl) (fun K hK => ?_)
    iterate 4 (go_big_quiet_step (fail))
    refine wpQuiet_nil (hK _ ?_); clear hK K
    clear q0 q1 q2 q3 q4 q5 q6
    refine Dr.plan_e rfl (by rfl) (fun K hK => ?_)
    go_wp2_with fail
    refine (RO.out _ hb).mono ?_; rintro e Vg ⟨rfl, hx⟩
    refine hK _ _ (.of hx) ?_; clear hK K
    replace hb := ext_trans hb hx
    replace hP := hP.ext hx
    clear hx RO
    with_reducible refine Dr.plan_q (l := [_, _, _, _]) (by with_unfolding_all exact rfl) (fun K hK => ?_)
    iterate 4 (go_big_quiet_step (fail))
    refine wpQuiet_nil (hK _ ?_); clear hK K
    refine Dr.plan_e rfl (by rfl) (fun K hK => ?_)
    go_wp2_with fail
    refine (awake_any _).mono ?_; rintro e Vh ⟨rfl, hx⟩
    refine hK _ _ (.of hx) ?_; clear hK K
    replace hb := ext_trans hb hx
    clear hx
    with_reducible refine Dr.plan_q (l := [_, _]) (by with_unfolding_all exact rfl) (fun K hK => ?_)
    iterate 2 (go_big_quiet_step (fail))
    refine wpQuiet_nil (hK _ ?_); clear hK K
    refine Dr.plan_end rfl ?_
    go_wp2
    go_ret
    exact ⟨rfl, hb⟩
  · rw [hre] at CR
    rw [hle] at CO
    have h00 : (checkE ⟨l, h, ca, em, re, ax, dk⟩ ts == 0) = false := by rw [beq_eq_false_iff_ne]; exact h0
    generalize checkE ⟨l, h, ca, em, re, ax, dk⟩ ts = ce at *
    generalize hok : Lo.okB ⟨l, h, ca, em, re, ax, dk⟩ = okl at *
    clear h0 hok hre hle hd ht hM hr10 hr20 hrF hrl
    cases okl
    · rw [if_neg (by decide)] at CK
      have hb := ext_alloc w (.cells #[.slice A l.length c, .int .i64 h, .int .i64 ca, .int .i64 em, .int .i64 re, .int .i64 ax, .int .i64 dk] 37)
      have hP := Blk.new w 37 [.slice A l.length c, .int .i64 h, .int .i64 ca, .int .i64 em, .int .i64 re, .int .i64 ax, .int .i64 dk]
      go_enter Try.func11, Try.ntmps11
      go_upto_region 1 with fail
      change Blk (w.alloc (.cells #[.slice A l.length c, .int .i64 h, .int .i64 ca, .int .i64 em, .int .i64 re, .int .i64 ax, .int .i64 dk] 37)) _ _ _ at hP
      change Below w.heap.size w (w.alloc (.cells #[.slice A l.length c, .int .i64 h, .int .i64 ca, .int .i64 em, .int .i64 re, .int .i64 ax, .int .i64 dk] 37)) at hb
      generalize w.alloc (.cells #[.slice A l.length c, .int .i64 h, .int .i64 ca, .int .i64 em, .int .i64 re, .int .i64 ax, .int .i64 dk] 37) = W0 at *
      have q0 : W0.cell? ⟨w.heap.size, 0, none⟩ = _ := hP.cell rfl
      have q1 : W0.cell? ⟨w.heap.size, 1, none⟩ = _ := hP.cell rfl
      have q2 : W0.cell? ⟨w.heap.size, 2, none⟩ = _ := hP.cell rfl
      have q3 : W0.cell? ⟨w.heap.size, 3, none⟩ = _ := hP.cell rfl
      have q4 : W0.cell? ⟨w.heap.size, 4, none⟩ = _ := hP.cell rfl
      have q5 : W0.cell? ⟨w.heap.size, 5, none⟩ = _ := hP.cell rfl
      have q6 : W0.cell? ⟨w.heap.size, 6, none⟩ = _ := hP.cell rfl
      go_wp2_with fail
      refine (CT.out _).mono ?_; rintro e W1 ⟨rfl, hx⟩
      replace hb := ext_trans hb hx
      replace hP := hP.ext hx
      clear hx CT
      clear q0 q1 q2 q3 q4 q5 q6
      go_wp2_with fail
      refine (CCu.out _ hb).mono ?_; rintro e W2 ⟨rfl, rfl⟩
      clear CCu
      have q0 : W1.cell? ⟨w.heap.size, 0, none⟩ = _ := hP.cell rfl
      have q1 : W1.cell? ⟨w.heap.size, 1, none⟩ = _ := hP.cell rfl
      have q2 : W1.cell? ⟨w.heap.size, 2, none⟩ = _ := hP.cell rfl
      have q3 : W1.cell? ⟨w.heap.size, 3, none⟩ = _ := hP.cell rfl
      have q4 : W1.cell? ⟨w.heap.size, 4, none⟩ = _ := hP.cell rfl
      have q5 : W1.cell? ⟨w.heap.size, 5, none⟩ = _ := hP.cell rfl
      have q6 : W1.cell? ⟨w.heap.size, 6, none⟩ = _ := hP.cell rfl
      go_wp2_with fail
      refine (CF.out _ hb).mono ?_; rintro e W3 ⟨rfl, hx⟩
      replace hb := ext_trans hb hx
      replace hP := hP.ext hx
      clear hx CF
      clear q0 q1 q2 q3 q4 q5 q6
      go_upto_region 4 with fail
      refine Dr.wp_region_plan 55 [] (.q [0, 4] (.e1 1 (.e1 2 (.q [3] (.e1 5 (.q [6, 7, 8, 12] (.e1 9 (.e1 10 (.q [11] (.e1 13 (.q [14, 15, 16, 17, 18, 20, 22, 25] (.e1 19 (.e1 21 (.e1 23 (.e1 24 (.q [26, 27, 28, 29] (.e1 30 (.q [31, 32, 33, 34, 35, 37, 39, 42] (.e1 36 (.e1 38 (.e1 40 (.e1 41 (.q [43, 44, 45, 46] (.e1 47 (.q [48, 49, 50, 51] (.e1 52 (.q [53, 54] .done))))))))))))))))))))))))))) (by kernel_rfl) (by kernel_rfl) ?_
      replace hb := hb.drew
      replace hP := hP.drew
      generalize World.drew W3 = V0 at *
      have q0 := Dr.cell0 (hP.cell (i := 0) rfl)
      have q1 := Dr.cell0 (hP.cell (i := 1) rfl)
      have q2 := Dr.cell0 (hP.cell (i := 2) rfl)
      have q3 := Dr.cell0 (hP.cell (i := 3) rfl)
      have q4 := Dr.cell0 (hP.cell (i := 4) rfl)
      have q5 := Dr.cell0 (hP.cell (i := 5) rfl)
      have q6 := Dr.cell0 (hP.cell (i := 6) rfl)
      with_reducible refine Dr.plan_q (l := [_, _]) (by with_unfolding_all exact rfl) (fun K hK => ?_)
      iterate 2 (go_big_quiet_step (fail))
      refine wpQuiet_nil (hK _ ?_); clear hK K
      clear q0 q1 q2 q3 q4 q5 q6
      refine Dr.plan_e rfl (by rfl) (fun K hK => ?_)
      go_wp2_with fail
      refine (CL.out _ hb).mono ?_; rintro e V1 ⟨⟨A1, d1, rfl, hA1⟩, hx⟩
      refine hK _ _ (.of hx) ?_; clear hK K
      replace hb := ext_trans hb hx
      replace hP := hP.ext hx
      clear hx
      refine Dr.plan_e rfl (by rfl) (fun K hK => ?_)
      go_wp2_with fail
      refine (CK.out _ A1 d1 hA1).mono ?_; rintro e V2 ⟨rfl, hx⟩
      refine hK _ _ (.of hx) ?_; clear hK K
      replace hb := ext_trans hb hx
      replace hP := hP.ext hx
      clear hx hA1
      with_reducible refine Dr.plan_q (l := [_]) (by with_unfolding_all exact rfl) (fun K hK => ?_)
      iterate 1 (go_big_quiet_step (fail))
      refine wpQuiet_nil (hK _ ?_); clear hK K
      refine Dr.plan_e rfl (by rfl) (fun K hK => ?_)
      go_wp2_with fail
      refine (CRl.out _ hb).mono ?_; rintro e V3 ⟨rfl, hx⟩
      refine hK _ _ (.of hx) ?_; clear hK K
      replace hb := ext_trans hb hx
      replace hP := hP.ext hx
      clear hx
      have q0 := Dr.cell0 (hP.cell (i := 0) rfl)
      have q1 := Dr.cell0 (hP.cell (i := 1) rfl)
      have q2 := Dr.cell0 (hP.cell (i := 2) rfl)
      have q3 := Dr.cell0 (hP.cell (i := 3) rfl)
      have q4 := Dr.cell0 (hP.cell (i := 4) rfl)
      have q5 := Dr.cell0 (hP.cell (i := 5) rfl)
      have q6 := Dr.cell0 (hP.cell (i := 6) rfl)
      with_reducible refine Dr.plan_q (l := [_, _, _, _]) (by with_unfolding_all exact rfl) (fun K hK => ?_)
      iterate 4 (go_big_quiet_step (fail))
      refine wpQuiet_nil (hK _ ?_); clear hK K
      clear q0 q1 q2 q3 q4 q5 q6
      refine Dr.plan_e rfl (by rfl) (fun K hK => ?_)
      go_wp2_with fail
      refine (CL.out _ hb).mono ?_; rintro e V4 ⟨⟨A1, d1, rfl, hA1⟩, hx⟩
      refine hK _ _ (.of hx) ?_; clear hK K
      replace hb := ext_trans hb hx
      replace hP := hP.ext hx
      clear hx
      refine Dr.plan_e rfl (by rfl) (fun K hK => ?_)
      go_wp2_with fail
      refine (CK.out _ A1 d1 hA1).mono ?_; rintro e V5 ⟨rfl, hx⟩
      refine hK _ _ (.of hx) ?_; clear hK K
      replace hb := ext_trans hb hx
      replace hP := hP.ext hx
      clear hx hA1 CK
      with_reducible refine Dr.plan_q (l := [_]) (by with_unfolding_all exact rfl) (fun K hK => ?_)
      iterate 1 (go_big_quiet_step (fail))
      refine wpQuiet_nil (hK _ ?_); clear hK K
      refine Dr.plan_e rfl (by rfl) (fun K hK => ?_)
      go_wp2_with fail
      refine (CRl.out _ hb).mono ?_; rintro e V6 ⟨rfl, hx⟩
      refine hK _ _ (.of hx) ?_; clear hK K
      replace hb := ext_trans hb hx
      replace hP := hP.ext hx
      clear hx CRl
      have q0 := Dr.cell0 (hP.cell (i := 0) rfl)
      have q1 := Dr.cell0 (hP.cell (i := 1) rfl)
      have q2 := Dr.cell0 (hP.cell (i := 2) rfl)
      have q3 := Dr.cell0 (hP.cell (i := 3) rfl)
      have q4 := Dr.cell0 (hP.cell (i := 4) rfl)
      have q5 := Dr.cell0 (hP.cell (i := 5) rfl)
      have q6 := Dr.cell0 (hP.cell (i := 6) rfl)
      with_reducible refine Dr.plan_q (l := [_, _, _, _, _, _, _, _]) (by with_unfolding_all exact rfl) (fun K hK => ?_)
      iterate 8 (go_big_quiet_step (fail))
      refine wpQuiet_nil (hK _ ?_); clear hK K
      clear q0 q1 q2 q3 q4 q5 q6
      refine Dr.plan_e rfl (by rfl) (fun K hK => ?_)
      go_wp2_with fail
      refine (CL.out _ hb).mono ?_; rintro e V7 ⟨⟨A1, d1, rfl, hA1⟩, hx⟩
      refine hK _ _ (.of hx) ?_; clear hK K
      replace hb := ext_trans hb hx
      replace hP := hP.ext hx
      clear hx
      refine Dr.plan_e rfl (by rfl) (fun K hK => ?_)
      go_wp2_with fail
      refine (CTh.out _ hb).mono ?_; rintro e V8 ⟨⟨T1, e1, rfl, hT1⟩, hx⟩
      refine hK _ _ (.of hx) ?_; clear hK K
      replace hb := ext_trans hb hx
      replace hP := hP.ext hx
      replace hA1 := hA1.ext hx
      clear hx
      refine Dr.plan_e rfl (by rfl) (fun K hK => ?_)
      go_wp2_with fail
      refine (CLa.out _ hb).mono ?_; rintro e V9 ⟨⟨R1, f1, r1, rfl, hr1, hR1⟩, hx⟩
      refine hK _ _ (.of hx) ?_; clear hK K
      replace hb := ext_trans hb hx
      replace hP := hP.ext hx
      replace hA1 := hA1.ext hx
      replace hT1 := hT1.ext hx
      clear hx
      have hrn : r1.length = rs.length := by rw [← rows_len, hr1, rows_len]
      have CR1 := CR.out V9 A1 d1 T1 e1 R1 f1 r1 hr1 hrn hA1 hT1 hR1
      rw [hrn] at CR1
      replace CR1 := Lib.hid CR1
      clear hr1 hrn hA1 hT1 hR1
      refine Dr.plan_e rfl (by rfl) (fun K hK => ?_)
      go_wp2_with fail
      refine (CR1.out).mono ?_; rintro e Va ⟨rfl, hx⟩
      refine hK _ _ (.of hx) ?_; clear hK K
      replace hb := ext_trans hb hx
      replace hP := hP.ext hx
      clear hx CR CR1
      with_reducible refine Dr.plan_q (l := [_, _, _, _]) (by with_unfolding_all exact rfl) (fun K hK => ?_)
      iterate 4 (go_big_quiet_step (fail))
      refine wpQuiet_nil (hK _ ?_); clear hK K
      refine Dr.plan_e_skip rfl (by rfl) ?_; go_frame
      have q0 := Dr.cell0 (hP.cell (i := 0) rfl)
      have q1 := Dr.cell0 (hP.cell (i := 1) rfl)
      have q2 := Dr.cell0 (hP.cell (i := 2) rfl)
      have q3 := Dr.cell0 (hP.cell (i := 3) rfl)
      have q4 := Dr.cell0 (hP.cell (i := 4) rfl)
      have q5 := Dr.cell0 (hP.cell (i := 5) rfl)
      have q6 := Dr.cell0 (hP.cell (i := 6) rfl)
      with_reducible refine Dr.plan_q (l := [_, _, _, _, _, _, _, _]) (by with_unfolding_all exact rfl) (fun K hK => ?_)
      iterate 8 (go_big_quiet_step (fail))
      refine wpQuiet_nil (hK _ ?_); clear hK K
      clear q0 q1 q2 q3 q4 q5 q6
      refine Dr.plan_e rfl (by rfl) (fun K hK => ?_)
      go_wp2_with fail
      refine (CL.out _ hb).mono ?_; rintro e Vc ⟨⟨A1, d1, rfl, hA1⟩, hx⟩
      refine hK _ _ (.of hx) ?_; clear hK K
      replace hb := ext_trans hb hx
      replace hP := hP.ext hx
      clear hx CL
      refine Dr.plan_e rfl (by rfl) (fun K hK => ?_)
      go_wp2_with fail
      refine (CTh.out _ hb).mono ?_; rintro e Vd ⟨⟨T1, e1, rfl, hT1⟩, hx⟩
      refine hK _ _ (.of hx) ?_; clear hK K
      replace hb := ext_trans hb hx
      replace hP := hP.ext hx
      replace hA1 := hA1.ext hx
      clear hx CTh
      refine Dr.plan_e rfl (by rfl) (fun K hK => ?_)
      go_wp2_with fail
      refine (CLa.out _ hb).mono ?_; rintro e Ve ⟨⟨R1, f1, r1, rfl, hr1, hR1⟩, hx⟩
      refine hK _ _ (.of hx) ?_; clear hK K
      replace hb := ext_trans hb hx
      replace hP := hP.ext hx
      replace hA1 := hA1.ext hx
      replace hT1 := hT1.ext hx
      clear hx CLa
      have hrn : r1.length = rs.length := by rw [← rows_len, hr1, rows_len]
      have CO1 := CO.out Ve A1 d1 T1 e1 R1 f1 r1 hr1 hrn hA1 hT1 hR1
      rw [hrn] at CO1
      replace CO1 := Lib.hid CO1
      clear hr1 hrn hA1 hT1 hR1
      refine Dr.plan_e rfl (by rfl) (fun K hK => ?_)
      go_wp2_with fail
      refine (CO1.out).mono ?_; rintro e Vf ⟨rfl, hx⟩
      refine hK _ _ (.of hx) ?_; clear hK K
      replace hb := ext_trans hb hx
      replace hP := hP.ext hx
      clear hx CO CO1
      with_reducible refine Dr.plan_q (l := [_, _, _, _]) (by with_unfolding_all exact rfl) (fun K hK => ?_)
      iterate 4 (go_big_quiet_step (fail))
      refine wpQuiet_nil (hK _ ?_); clear hK K
      refine Dr.plan_e_skip rfl (by rfl) ?_; go_frame
      with_reducible refine Dr.plan_q (l := [_, _, _, _]) (by with_unfolding_all exact rfl) (fun K hK => ?_)
      iterate 4 (go_big_quiet_step (fail))
      refine wpQuiet_nil (hK _ ?_); clear hK K
      refine Dr.plan_e rfl (by rfl) (fun K hK => ?_)
      go_wp2_with fail
      refine (awake_any _).mono ?_; rintro e Vh ⟨rfl, hx⟩
      refine hK _ _ (.of hx) ?_; clear hK K
      replace hb := ext_trans hb hx
      clear hx
      with_reducible refine Dr.plan_q (l := [_, _]) (by with_unfolding_all exact rfl) (fun K hK => ?_)
      iterate 2 (go_big_quiet_step (fail))
      refine wpQuiet_nil (hK _ ?_); clear hK K
      refine Dr.plan_end rfl ?_
      go_wp2
      go_ret
      exact ⟨rfl, hb⟩
    · rw [if_pos rfl] at CK
      have hb := ext_alloc w (.cells #[.slice A l.length c, .int .i64 h, .int .i64 ca, .int .i64 em, .int .i64 re, .int .i64 ax, .int .i64 dk] 37)
      have hP := Blk.new w 37 [.slice A l.length c, .int .i64 h, .int .i64 ca, .int .i64 em, .int .i64 re, .int .i64 ax, .int .i64 dk]
      go_enter Try.func11, Try.ntmps11
      go_upto_region 1 with fail
      change Blk (w.alloc (.cells #[.slice A l.length c, .int .i64 h, .int .i64 ca, .int .i64 em, .int .i64 re, .int .i64 ax, .int .i64 dk] 37)) _ _ _ at hP
      change Below w.heap.size w (w.alloc (.cells #[.slice A l.length c, .int .i64 h, .int .i64 ca, .int .i64 em, .int .i64 re, .int .i64 ax, .int .i64 dk] 37)) at hb
      generalize w.alloc (.cells #[.slice A l.length c, .int .i64 h, .int .i64 ca, .int .i64 em, .int .i64 re, .int .i64 ax, .int .i64 dk] 37) = W0 at *
      have q0 : W0.cell? ⟨w.heap.size, 0, none⟩ = _ := hP.cell rfl
      have q1 : W0.cell? ⟨w.heap.size, 1, none⟩ = _ := hP.cell rfl
      have q2 : W0.cell? ⟨w.heap.size, 2, none⟩ = _ := hP.cell rfl
      have q3 : W0.cell? ⟨w.heap.size, 3, none⟩ = _ := hP.cell rfl
      have q4 : W0.cell? ⟨w.heap.size, 4, none⟩ = _ := hP.cell rfl
      have q5 : W0.cell? ⟨w.heap.size, 5, none⟩ = _ := hP.cell rfl
      have q6 : W0.cell? ⟨w.heap.size, 6, none⟩ = _ := hP.cell rfl
      go_wp2_with fail
      refine (CT.out _).mono ?_; rintro e W1 ⟨rfl, hx⟩
      replace hb := ext_trans hb hx
      replace hP := hP.ext hx
      clear hx CT
      clear q0 q1 q2 q3 q4 q5 q6
      go_wp2_with fail
      refine (CCu.out _ hb).mono ?_; rintro e W2 ⟨rfl, rfl⟩
      clear CCu
      have q0 : W1.cell? ⟨w.heap.size, 0, none⟩ = _ := hP.cell rfl
      have q1 : W1.cell? ⟨w.heap.size, 1, none⟩ = _ := hP.cell rfl
      have q2 : W1.cell? ⟨w.heap.size, 2, none⟩ = _ := hP.cell rfl
      have q3 : W1.cell? ⟨w.heap.size, 3, none⟩ = _ := hP.cell rfl
      have q4 : W1.cell? ⟨w.heap.size, 4, none⟩ = _ := hP.cell rfl
      have q5 : W1.cell? ⟨w.heap.size, 5, none⟩ = _ := hP.cell rfl
      have q6 : W1.cell? ⟨w.heap.size, 6, none⟩ = _ := hP.cell rfl
      go_wp2_with fail
      refine (CF.out _ hb).mono ?_; rintro e W3 ⟨rfl, hx⟩
      replace hb := ext_trans hb hx
      replace hP := hP.ext hx
      clear hx CF
      clear q0 q1 q2 q3 q4 q5 q6
      go_upto_region 4 with fail
      refine Dr.wp_region_plan 55 [] (.q [0, 4] (.e1 1 (.e1 2 (.q [3] (.e1 5 (.q [6, 7, 8, 12] (.e1 9 (.e1 10 (.q [11] (.e1 13 (.q [14, 15, 16, 17, 18, 20, 22, 25] (.e1 19 (.e1 21 (.e1 23 (.e1 24 (.q [26, 27, 28, 29] (.e1 30 (.q [31, 32, 33, 34, 35, 37, 39, 42] (.e1 36 (.e1 38 (.e1 40 (.e1 41 (.q [43, 44, 45, 46] (.e1 47 (.q [48, 49, 50, 51] (.e1 52 (.q [53, 54] .done))))))))))))))))))))))))))) (by kernel_rfl) (by kernel_rfl) ?_
      replace hb := hb.drew
      replace hP := hP.drew
      generalize World.drew W3 = V0 at *
      have q0 := Dr.cell0 (hP.cell (i := 0) rfl)
      have q1 := Dr.cell0 (hP.cell (i := 1) rfl)
      have q2 := Dr.cell0 (hP.cell (i := 2) rfl)
      have q3 := Dr.cell0 (hP.cell (i := 3) rfl)
      have q4 := Dr.cell0 (hP.cell (i := 4) rfl)
      have q5 := Dr.cell0 (hP.cell (i := 5) rfl)
      have q6 := Dr.cell0 (hP.cell (i := 6) rfl)
      with_reducible refine Dr.plan_q (l := [_, _]) (by with_unfolding_all exact rfl) (fun K hK => ?_)
      iterate 2 (go_big_quiet_step (fail))
      refine wpQuiet_nil (hK _ ?_); clear hK K
      clear q0 q1 q2 q3 q4 q5 q6
      refine Dr.plan_e rfl (by rfl) (fun K hK => ?_)
      go_wp2_with fail
      refine (CL.out _ hb).mono ?_; rintro e V1 ⟨⟨A1, d1, rfl, hA1⟩, hx⟩
      refine hK _ _ (.of hx) ?_; clear hK K
      replace hb := ext_trans hb hx
      replace hP := hP.ext hx
      clear hx
      refine Dr.plan_e rfl (by rfl) (fun K hK => ?_)
      go_wp2_with fail
      refine (CK.out _ A1 d1 hA1).mono ?_; rintro e V2 ⟨rfl, hx⟩
      refine hK _ _ (.of hx) ?_; clear hK K
      replace hb := ext_trans hb hx
      replace hP := hP.ext hx
      clear hx hA1
      with_reducible refine Dr.plan_q (l := [_]) (by with_unfolding_all exact rfl) (fun K hK => ?_)
      iterate 1 (go_big_quiet_step (fail))
      refine wpQuiet_nil (hK _ ?_); clear hK K
      refine Dr.plan_e rfl (by rfl) (fun K hK => ?_)
      go_wp2_with fail
      refine (CRl.out _ hb).mono ?_; rintro e V3 ⟨rfl, hx⟩
      refine hK _ _ (.of hx) ?_; clear hK K
      replace hb := ext_trans hb hx
      replace hP := hP.ext hx
      clear hx
      have q0 := Dr.cell0 (hP.cell (i := 0) rfl)
      have q1 := Dr.cell0 (hP.cell (i := 1) rfl)
      have q2 := Dr.cell0 (hP.cell (i := 2) rfl)
      have q3 := Dr.cell0 (hP.cell (i := 3) rfl)
      have q4 := Dr.cell0 (hP.cell (i := 4) rfl)
      have q5 := Dr.cell0 (hP.cell (i := 5) rfl)
      have q6 := Dr.cell0 (hP.cell (i := 6) rfl)
      with_reducible refine Dr.plan_q (l := [_, _, _, _]) (by with_unfolding_all exact rfl) (fun K hK => ?_)
      iterate 4 (go_big_quiet_step (fail))
      refine wpQuiet_nil (hK _ ?_); clear hK K
      clear q0 q1 q2 q3 q4 q5 q6
      refine Dr.plan_e rfl (by rfl) (fun K hK => ?_)
      go_wp2_with fail
      refine (CL.out _ hb).mono ?_; rintro e V4 ⟨⟨A1, d1, rfl, hA1⟩, hx⟩
      refine hK _ _ (.of hx) ?_; clear hK K
      replace hb := ext_trans hb hx
      replace hP := hP.ext hx
      clear hx
      refine Dr.plan_e rfl (by rfl) (fun K hK => ?_)
      go_wp2_with fail
      refine (CK.out _ A1 d1 hA1).mono ?_; rintro e V5 ⟨rfl, hx⟩
      refine hK _ _ (.of hx) ?_; clear hK K
      replace hb := ext_trans hb hx
      replace hP := hP.ext hx
      clear hx hA1 CK
      with_reducible refine Dr.plan_q (l := [_]) (by with_unfolding_all exact rfl) (fun K hK => ?_)
      iterate 1 (go_big_quiet_step (fail))
      refine wpQuiet_nil (hK _ ?_); clear hK K
      refine Dr.plan_e rfl (by rfl) (fun K hK => ?_)
      go_wp2_with fail
      refine (CRl.out _ hb).mono ?_; rintro e V6 ⟨rfl, hx⟩
      refine hK _ _ (.of hx) ?_; clear hK K
      replace hb := ext_trans hb hx
      replace hP := hP.ext hx
      clear hx CRl
      have q0 := Dr.cell0 (hP.cell (i := 0) rfl)
      have q1 := Dr.cell0 (hP.cell (i := 1) rfl)
      have q2 := Dr.cell0 (hP.cell (i := 2) rfl)
      have q3 := Dr.cell0 (hP.cell (i := 3) rfl)
      have q4 := Dr.cell0 (hP.cell (i := 4) rfl)
      have q5 := Dr.cell0 (hP.cell (i := 5) rfl)
      have q6 := Dr.cell0 (hP.cell (i := 6) rfl)
      with_reducible refine Dr.plan_q (l := [_, _, _, _, _, _, _, _]) (by with_unfolding_all exact rfl) (fun K hK => ?_)
      iterate 8 (go_big_quiet_step (fail))
      refine wpQuiet_nil (hK _ ?_); clear hK K
      clear q0 q1 q2 q3 q4 q5 q6
      refine Dr.plan_e rfl (by rfl) (fun K hK => ?_)
      go_wp2_with fail
      refine (CL.out _ hb).mono ?_; rintro e V7 ⟨⟨A1, d1, rfl, hA1⟩, hx⟩
      refine hK _ _ (.of hx) ?_; clear hK K
      replace hb := ext_trans hb hx
      replace hP := hP.ext hx
      clear hx
      refine Dr.plan_e rfl (by rfl) (fun K hK => ?_)
      go_wp2_with fail
      refine (CTh.out _ hb).mono ?_; rintro e V8 ⟨⟨T1, e1, rfl, hT1⟩, hx⟩
      refine hK _ _ (.of hx) ?_; clear hK K
      replace hb := ext_trans hb hx
      replace hP := hP.ext hx
      replace hA1 := hA1.ext hx
      clear hx
      refine Dr.plan_e rfl (by rfl) (fun K hK => ?_)
      go_wp2_with fail
      refine (CLa.out _ hb).mono ?_; rintro e V9 ⟨⟨R1, f1, r1, rfl, hr1, hR1⟩, hx⟩
      refine hK _ _ (.of hx) ?_; clear hK K
      replace hb := ext_trans hb hx
      replace hP := hP.ext hx
      replace hA1 := hA1.ext hx
      replace hT1 := hT1.ext hx
      clear hx
      have hrn : r1.length = rs.length := by rw [← rows_len, hr1, rows_len]
      have CR1 := CR.out V9 A1 d1 T1 e1 R1 f1 r1 hr1 hrn hA1 hT1 hR1
      rw [hrn] at CR1
      replace CR1 := Lib.hid CR1
      clear hr1 hrn hA1 hT1 hR1
      refine Dr.plan_e rfl (by rfl) (fun K hK => ?_)
      go_wp2_with fail
      refine (CR1.out).mono ?_; rintro e Va ⟨rfl, hx⟩
      refine hK _ _ (.of hx) ?_; clear hK K
      replace hb := ext_trans hb hx
      replace hP := hP.ext hx
      clear hx CR CR1
      with_reducible refine Dr.plan_q (l := [_, _, _, _]) (by with_unfolding_all exact rfl) (fun K hK => ?_)
      iterate 4 (go_big_quiet_step (fail))
      refine wpQuiet_nil (hK _ ?_); clear hK K
      refine Dr.plan_e_skip rfl (by rfl) ?_; go_frame
      have q0 := Dr.cell0 (hP.cell (i := 0) rfl)
      have q1 := Dr.cell0 (hP.cell (i := 1) rfl)
      have q2 := Dr.cell0 (hP.cell (i := 2) rfl)
      have q3 := Dr.cell0 (hP.cell (i := 3) rfl)
      have q4 := Dr.cell0 (hP.cell (i := 4) rfl)
      have q5 := Dr.cell0 (hP.cell (i := 5) rfl)
      have q6 := Dr.cell0 (hP.cell (i := 6) rfl)
      with_reducible refine Dr.plan_q (l := [_, _, _, _, _, _, _, _]) (by with_unfolding_all exact rfl) (fun K hK => ?_)
      iterate 8 (go_big_quiet_step (fail))
      refine wpQuiet_nil (hK _ ?_); clear hK K
      clear q0 q1 q2 q3 q4 q5 q6
      refine Dr.plan_e rfl (by rfl) (fun K hK => ?_)
      go_wp2_with fail
      refine (CL.out _ hb).mono ?_; rintro e Vc ⟨⟨A1, d1, rfl, hA1⟩, hx⟩
      refine hK _ _ (.of hx) ?_; clear hK K
      replace hb := ext_trans hb hx
      replace hP := hP.ext hx
      clear hx CL
      refine Dr.plan_e rfl (by rfl) (fun K hK => ?_)
      go_wp2_with fail
      refine (CTh.out _ hb).mono ?_; rintro e Vd ⟨⟨T1, e1, rfl, hT1⟩, hx⟩
      refine hK _ _ (.of hx) ?_; clear hK K
      replace hb := ext_trans hb hx
      replace hP := hP.ext hx
      replace hA1 := hA1.ext hx
      clear hx CTh
      refine Dr.plan_e rfl (by rfl) (fun K hK => ?_)
      go_wp2_with fail
      refine (CLa.out _ hb).mono ?_; rintro e Ve ⟨⟨R1, f1, r1, rfl, hr1, hR1⟩, hx⟩
      refine hK _ _ (.of hx) ?_; clear hK K
      replace hb := ext_trans hb hx
      replace hP := hP.ext hx
      replace hA1 := hA1.ext hx
      replace hT1 := hT1.ext hx
      clear hx CLa
      have hrn : r1.length = rs.length := by rw [← rows_len, hr1, rows_len]
      have CO1 := CO.out Ve A1 d1 T1 e1 R1 f1 r1 hr1 hrn hA1 hT1 hR1
      rw [hrn] at CO1
      replace CO1 := Lib.hid CO1
      clear hr1 hrn hA1 hT1 hR1
      refine Dr.plan_e rfl (by rfl) (fun K hK => ?_)
      go_wp2_with fail
      refine (CO1.out).mono ?_; rintro e Vf ⟨rfl, hx⟩
      refine hK _ _ (.of hx) ?_; clear hK K
      replace hb := ext_trans hb hx
      replace hP := hP.ext hx
      clear hx CO CO1
      with_reducible refine Dr.plan_q (l := [_, _, _, _]) (by with_unfolding_all exact rfl) (fun K hK => ?_)
      iterate 4 (go_big_quiet_step (fail))
      refine wpQuiet_nil (hK _ ?_); clear hK K
      refine Dr.plan_e_skip rfl (by rfl) ?_; go_frame
      with_reducible refine Dr.plan_q (l := [_, _, _, _]) (by with_unfolding_all exact rfl) (fun K hK => ?_)
      iterate 4 (go_big_quiet_step (fail))
      refine wpQuiet_nil (hK _ ?_); clear hK K
      refine Dr.plan_e rfl (by rfl) (fun K hK => ?_)
      go_wp2_with fail
      refine (awake_any _).mono ?_; rintro e Vh ⟨rfl, hx⟩
      refine hK _ _ (.of hx) ?_; clear hK K
      replace hb := ext_trans hb hx
      clear hx
      with_reducible refine Dr.plan_q (l := [_, _]) (by with_unfolding_all exact rfl) (fun K hK => ?_)
      iterate 2 (go_big_quiet_step (fail))
      refine wpQuiet_nil (hK _ ?_); clear hK K
      refine Dr.plan_end rfl ?_
      go_wp2
      go_ret
      exact ⟨rfl, hb⟩
end Go.Proofs.Ytbpmfaibcibleaa

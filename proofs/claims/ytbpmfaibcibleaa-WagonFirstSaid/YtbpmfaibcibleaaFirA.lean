/- The law WagonFirst: its walk. (Printed by mk_fira.py.) -/
import Derived.Test.YtbpmfaibcibleaaLawA
import Derived.Test.YtbpmfaibcibleaaLhpN
import Derived.Test.YtbpmfaibcibleaaFirP
namespace Go.Proofs.Ytbpmfaibcibleaa
open Go.RowKit Go.Bs Go.Wg Go.Pl Go.Sort
theorem cut_rows {n : Nat} {rs : List RwV} (h : cutB n (rows rs) = true) (hn : rs.length = n) : rs.length ≤ 10 ∧ (∀ x ∈ rs, x.r.length ≤ 20) ∧ (rows rs).flatten.length ≤ 200 := by
  unfold cutB at h
  simp only [Bool.and_eq_true, decide_eq_true_eq, List.all_eq_true] at h
  have h1 : ∀ x ∈ rs, x.r.length ≤ 20 := fun x hx => h.1 x.r (List.mem_map.2 ⟨x, hx, rfl⟩)
  have key : ∀ l : List RwV, (∀ x ∈ l, x.r.length ≤ 20) → (rows l).flatten.length ≤ l.length * 20 := by
    intro l
    induction l with
    | nil => intro _; simp [rows]
    | cons a l ih =>
      intro H
      have h2 := ih fun x hx => H x (by simp [hx])
      have h3 := H a (by simp)
      unfold rows at h2 ⊢
      simp only [List.map_cons, List.flatten_cons, List.length_append, List.length_cons]
      omega
  have h4 := key rs h1
  have h5 := h.2
  exact ⟨by omega, h1, by omega⟩
theorem flat_of_rows {a b : List RwV} (h : rows a = rows b) {N : Nat} (hb : (rows b).flatten.length ≤ N) : (rows a).flatten.length ≤ N := by rw [h]; exact hb
theorem rightC (A : Option Addr) (c : Nat) (h ca em re ax dk : Int) (l : List Int) (T : Option Addr) (cT : Nat) (ts : List Th) (R : Option Addr) (cR : Nat) (rs : List RwV) (P : List (List Int)) (V : World) (hl : l.length ≤ 1000000) (hm : ts.length ≤ 1000000) (hk : rs.length ≤ 1000000) (hF : (rows rs).flatten.length ≤ 1000000) (hA : Cells V A 1 Go.Bs.encI l) (hT : Cells V T 4 Th.enc ts) (hM : RwM V R rs) (hP : rows rs = P) :
    Calls Try.prog 35 #[.agg #[.slice A l.length c, .int .i64 h, .int .i64 ca, .int .i64 em, .int .i64 re, .int .i64 ax, .int .i64 dk], .slice T ts.length cT, .slice R rs.length cR] V fun e w' => e = .returned (.bool (rightE ⟨l, h, ca, em, re, ax, dk⟩ ts P)) ∧ Below V.heap.size V w' := by
  rw [← hP]
  exact Right_any ⟨⟨⟨l, h, ca, em, re, ax, dk⟩, A, c⟩, T, cT⟩ ts R rs.length cR rs V (by simp only; omega) (by omega) hA hT rfl (by omega) hM hF
theorem loadC (A : Option Addr) (c : Nat) (h ca em re ax dk : Int) (l : List Int) (T : Option Addr) (cT : Nat) (ts : List Th) (R : Option Addr) (cR : Nat) (rs : List RwV) (P : List (List Int)) (V : World) (hl : l.length ≤ 1000000) (hm : ts.length ≤ 1000000) (hk : rs.length ≤ 1000000) (hF : (rows rs).flatten.length ≤ 1000000) (hA : Cells V A 1 Go.Bs.encI l) (hT : Cells V T 4 Th.enc ts) (hM : RwM V R rs) (hP : rows rs = P) :
    Calls Try.prog 39 #[.agg #[.slice A l.length c, .int .i64 h, .int .i64 ca, .int .i64 em, .int .i64 re, .int .i64 ax, .int .i64 dk], .slice T ts.length cT, .slice R rs.length cR] V fun e w' => e = .returned (.bool (loadE ⟨l, h, ca, em, re, ax, dk⟩ ts P)) ∧ Below V.heap.size V w' := by
  rw [← hP]
  exact Loadable_any ⟨⟨⟨l, h, ca, em, re, ax, dk⟩, A, c⟩, T, cT⟩ ts R rs.length cR rs V (by simp only; omega) (by omega) hA hT rfl (by omega) hM hF
theorem checkC (A : Option Addr) (c : Nat) (h ca em re ax dk : Int) (l : List Int) (V : World) (hl : l.length ≤ 1000000) (hA : Cells V A 1 Go.Bs.encI l) :
    Calls Try.prog 50 #[.agg #[.slice A l.length c, .int .i64 h, .int .i64 ca, .int .i64 em, .int .i64 re, .int .i64 ax, .int .i64 dk]] V fun e w' => e = .returned (.int .i64 (if Lo.okB ⟨l, h, ca, em, re, ax, dk⟩ then 0 else 1)) ∧ Below V.heap.size V w' := CheckLorry_any ⟨⟨l, h, ca, em, re, ax, dk⟩, A, c⟩ V (by simp only; omega) hA
theorem packRes_rows {j : Lo} {ts : List Th} {ld : Bool} (h : checkE j ts = 0) : (packRes j ts ld).1.length ≤ 6 ∧ ∀ l ∈ (packRes j ts ld).1, l.length ≤ 1000 := by
  obtain ⟨hj, h14, -⟩ := checkE_zero.1 h
  unfold packRes
  rw [if_neg (not_not_intro h)]
  cases hp : packL j ts (upto ts.length) ld with
  | none => simp
  | some P =>
    unfold packL at hp
    split at hp
    · obtain ⟨q, -, rfl⟩ := Option.map_eq_some_iff.1 hp
      refine ⟨by have := hj.many; simp only [laid, List.length_map, List.length_range]; omega, fun l hl => ?_⟩
      simp only [laid, List.mem_map] at hl
      obtain ⟨i, -, rfl⟩ := hl
      have h1 := (sortL_perm (needC ts) (Wg.part (upto ts.length) q i)).length_eq
      have h2 : (Wg.part (upto ts.length) q i).length ≤ (upto ts.length).length := by
        unfold Wg.part
        rw [List.length_map]
        exact Nat.le_trans (List.length_filter_le _ _) (by rw [List.length_zip]; omega)
      rw [upto_len] at h2
      omega
    · cases hp
set_option maxHeartbeats 1000000 in
theorem lane_at (A : Option Addr) (n c : Nat) (rs : List RwV) (x : Int) (w : World) (hn : rs.length = n) (hn1 : n ≤ 1000000) (hM : RwM w A rs) (hl : ∀ r ∈ rs, r.r.length ≤ 1000000) :
    Calls Try.prog 40 #[.slice A n c, .int .i64 x] w fun e w' => e = .returned (.int .i64 (laneAt (rows rs) x)) ∧ w = w' := by
  have Hn := Lib.hid hn
  have HM := Lib.hid hM
  have Hl := Lib.hid hl
  generalize hres : laneAt (rows rs) x = res
  have Hres := Lib.hid hres
  clear hres hn hM hl
  go_enter Try.func40, Try.ntmps40
  go_wp2
  go_loop [5, 6] (fun t _ => ∃ z : Nat, t = .int .i64 z ∧ z ≤ n ∧ Hid (∀ k, k < z → ¬ x ∈ (rows rs).getD k [])) (fun t _ => n - (intOf t).toNat)
  case atStart => exact ⟨0, rfl, by omega, Lib.hid (by omega)⟩
  case round =>
    obtain ⟨z, rfl, hz, Hz⟩ := hrel
    by_cases hlt : z < n
    · have hlt' : (z : Int) < (n : Int) := by omega
      have hz1 : z < rs.length := by rw [Hn.out]; exact hlt
      obtain ⟨b, off, rfl, -, c0⟩ := HM.out.hdr.at1 hz1 rfl
      have hrow := HM.out.row _ (List.getElem_mem hz1)
      have hle := Hl.out _ (List.getElem_mem hz1)
      have hgr : (rows rs).getD z [] = rs[z].r := by simp [rows, List.getD, hz1]
      have Hhit := Lib.hid (show x ∈ rs[z].r → (z : Int) = res from fun h => by
        rw [← Hres.out]
        exact (laneAt_hit z (by rw [rows_len]; exact hz1) (by rw [hgr]; exact h) Hz.out).symm)
      have Hz2 := Lib.hid (show ¬ x ∈ rs[z].r → ∀ k, k < z + 1 → ¬ x ∈ (rows rs).getD k [] from fun h k hk => by
        by_cases e : k = z
        · rw [e, hgr]; exact h
        · exact Hz.out k (by omega))
      clear hgr
      generalize rs[z] = r at *
      obtain ⟨xr, xA, xc⟩ := r
      simp only at *
      generalize hxl : xr.length = e1 at *
      have Hxl := Lib.hid hxl
      clear hxl
      go_wp2
      go_loop [6] (fun q => ∃ y : Nat, q = .int .i64 y ∧ y ≤ e1 ∧ Hid (¬ x ∈ xr.take y)) (fun q => e1 - (intOf q).toNat)
      case atStart => exact ⟨0, rfl, by omega, Lib.hid (by simp)⟩
      case round =>
        obtain ⟨y, rfl, hy, Hy⟩ := hrel
        by_cases hyl : y < e1
        · have hyl' : (y : Int) < (e1 : Int) := by omega
          have hy1 : y < xr.length := by rw [Hxl.out]; exact hyl
          obtain ⟨b3, off3, rfl, -, e0⟩ := hrow.at1 hy1 rfl
          have Hh := Lib.hid (show xr[y] = x → (z : Int) = res from fun h => Hhit.out (by rw [← h]; exact List.getElem_mem hy1))
          have Hs := Lib.hid (show xr[y] ≠ x → ¬ x ∈ xr.take (y + 1) from fun h hm => by
            rw [List.take_succ_eq_append_getElem hy1] at hm
            rcases List.mem_append.1 hm with h5 | h5
            · exact Hy.out h5
            · exact h (List.mem_singleton.1 h5).symm)
          generalize xr[y] = v at *
          by_cases hv : v = x
          · have hv' : (v == x) = true := by rw [beq_iff_eq]; exact hv
            have Hr := Lib.hid (Hh.out hv)
            clear hv
            go_wp2
            go_ret
            exact ⟨by rw [← Hr.out]; rfl, rfl⟩
          · have hv' : (v == x) = false := by rw [beq_eq_false_iff_ne]; exact hv
            have H2 := Lib.hid (Hs.out hv)
            clear hv
            go_wp2
            go_round
            case rel => exact ⟨y + 1, by go_num, by omega, H2⟩
            case measure => simp [intOf]; omega
        · have hyt : xr.take y = xr := List.take_of_length_le (by rw [Hxl.out]; omega)
          rw [hyt] at Hy
          have Hz3 := Lib.hid (Hz2.out Hy.out)
          clear hyt
          go_wp2
          go_round
          case rel => exact ⟨z + 1, by go_num, by omega, Hz3⟩
          case measure => simp [intOf]; omega
    · obtain rfl : z = n := by omega
      have Hr := Lib.hid (show -1 = res by
        rw [← Hres.out]
        exact (laneAt_none fun l hl => by
          obtain ⟨k, hk, rfl⟩ := List.mem_iff_getElem.1 hl
          have h5 := Hz.out k (by rw [rows_len, Hn.out] at hk; exact hk)
          simpa [List.getD, hk] using h5).symm)
      go_wp2
      go_ret
      exact ⟨by rw [← Hr.out]; rfl, rfl⟩
set_option maxRecDepth 100000 in
set_option maxHeartbeats 8000000 in
theorem first_law (A : Option Addr) (n c : Nat) (h ca em re ax dk : Int) (l : List Int) (T : Option Addr) (m cT : Nat) (ts : List Th) (R : Option Addr) (k cR : Nat) (rs : List RwV) (w : World) (hn : l.length = n) (hn0 : n ≤ 9223372036854775807) (hd : Cells w A 1 Go.Bs.encI l) (hm : ts.length = m) (hm0 : m ≤ 9223372036854775807) (ht : Cells w T 4 Th.enc ts) (hk : rs.length = k) (hk0 : k ≤ 9223372036854775807) (hM : RwM w R rs) :
    Calls Try.prog 8 #[.agg #[.slice A n c, .int .i64 h, .int .i64 ca, .int .i64 em, .int .i64 re, .int .i64 ax, .int .i64 dk], .slice T m cT, .slice R k cR] w fun e w' => e = .returned (.bool true) ∧ Below w.heap.size w w' := by
  subst hn hm hk
  have CV := Lib.hid (fun V (hV : Below w.heap.size w V) => validC A c h ca em re ax dk l T cT ts V hn0 hm0 (hd.ext hV) (ht.ext hV))
  have CCu := Lib.hid (fun V (hV : Below w.heap.size w V) => cut_any R rs.length cR rs V rfl (by omega) (hM.hdr.ext hV))
  generalize hb1 : decide (checkE ⟨l, h, ca, em, re, ax, dk⟩ ts = 0) = b1 at *
  generalize hb2 : cutB rs.length (rows rs) = b2 at *
  have Hb1 := Lib.hid hb1
  have Hb2 := Lib.hid hb2
  have Hd := Lib.hid hd
  have Ht := Lib.hid ht
  have HMM := Lib.hid hM
  clear hb1 hb2 hd ht hM
  have hb := ext_alloc w (.cells #[.slice A l.length c, .int .i64 h, .int .i64 ca, .int .i64 em, .int .i64 re, .int .i64 ax, .int .i64 dk] 37)
  have hP := Blk.new w 37 [.slice A l.length c, .int .i64 h, .int .i64 ca, .int .i64 em, .int .i64 re, .int .i64 ax, .int .i64 dk]
  go_enter Try.func8, Try.ntmps8
  go_upto_region 1 with fail
  change Blk (w.alloc (.cells #[.slice A l.length c, .int .i64 h, .int .i64 ca, .int .i64 em, .int .i64 re, .int .i64 ax, .int .i64 dk] 37)) _ _ _ at hP
  change Below w.heap.size w (w.alloc (.cells #[.slice A l.length c, .int .i64 h, .int .i64 ca, .int .i64 em, .int .i64 re, .int .i64 ax, .int .i64 dk] 37)) at hb
  generalize w.alloc (.cells #[.slice A l.length c, .int .i64 h, .int .i64 ca, .int .i64 em, .int .i64 re, .int .i64 ax, .int .i64 dk] 37) = W0 at *
  have q0 : W0.cell? ⟨w.heap.size, 0, none⟩ = _ := hP.cell rfl
  have q1 : W0.cell? ⟨w.heap.size, 1, none⟩ = _ := hP.cell rfl
  have q2 : W0.cell? ⟨w.heap.size, 2, none⟩ = _ := hP.cell rfl
  have q3 : W0.cell? ⟨w.heap.size, 3, none⟩ = _ := hP.cell rfl
  have q4 : W0.cell? ⟨w.heap.size, 4, none⟩ = _ := hP.cell rfl
  have q5 : W0.cell? ⟨w.heap.size, 5, none⟩ = _ := hP.cell rfl
  have q6 : W0.cell? ⟨w.heap.size, 6, none⟩ = _ := hP.cell rfl
  go_wp2_with fail
  refine (CV.out _ hb).mono ?_; rintro e W1 ⟨rfl, hx⟩
  replace hb := ext_trans hb hx
  replace hP := hP.ext hx
  clear hx CV
  clear q0 q1 q2 q3 q4 q5 q6
  cases b1
  · go_wp2_with fail
    refine (awake_any _).mono ?_; rintro e Wz ⟨rfl, hx⟩
    replace hb := ext_trans hb hx
    go_wp2
    go_ret
    exact ⟨rfl, hb⟩
  have h0 := of_decide_eq_true Hb1.out
  go_wp2_with fail
  refine (CCu.out _ hb).mono ?_; rintro e W2 ⟨rfl, rfl⟩
  clear CCu
  cases b2
  · go_wp2_with fail
    refine (awake_any _).mono ?_; rintro e Wz ⟨rfl, hx⟩
    replace hb := ext_trans hb hx
    go_wp2
    go_ret
    exact ⟨rfl, hb⟩
  obtain ⟨hr10, hr20, hrF⟩ := cut_rows Hb2.out rfl
  obtain ⟨hlo, h14, hok⟩ := checkE_zero.1 h0
  have hlm := hlo.many
  simp only at hlm
  have hrl : ∀ x ∈ rs, x.r.length ≤ 1000000000 := fun x hx => by have := hr20 x hx; omega
  have CL := Lib.hid (fun V (hV : Below w.heap.size w V) => lorryC A c h ca em re ax dk l V (by omega) (Hd.out.ext hV))
  have CTh := Lib.hid (fun V (hV : Below w.heap.size w V) => thingsC T cT ts V (by omega) (Ht.out.ext hV))
  have CLa := Lib.hid (fun V (hV : Below w.heap.size w V) => lanesC R cR rs V (by omega) (HMM.out.ext hV) hrl)
  have CR := Lib.hid (fun V (A1 : Option Addr) (d1 : Nat) (T1 : Option Addr) (e1 : Nat) (R1 : Option Addr) (f1 : Nat) (r1 : List RwV) (h8 : rows r1 = rows rs) (h5 : r1.length = rs.length) (h6 : Cells V A1 1 Go.Bs.encI l) (h7 : Cells V T1 4 Th.enc ts) (hM1 : RwM V R1 r1) => rightC A1 d1 h ca em re ax dk l T1 e1 ts R1 f1 r1 (rows rs) V (by omega) (by omega) (by omega) (flat_of_rows h8 (by omega)) h6 h7 hM1 h8)
  have CO := Lib.hid (fun V (A1 : Option Addr) (d1 : Nat) (T1 : Option Addr) (e1 : Nat) (R1 : Option Addr) (f1 : Nat) (r1 : List RwV) (h8 : rows r1 = rows rs) (h5 : r1.length = rs.length) (h6 : Cells V A1 1 Go.Bs.encI l) (h7 : Cells V T1 4 Th.enc ts) (hM1 : RwM V R1 r1) => loadC A1 d1 h ca em re ax dk l T1 e1 ts R1 f1 r1 (rows rs) V (by omega) (by omega) (by omega) (flat_of_rows h8 (by omega)) h6 h7 hM1 h8)
  have CPa := Lib.hid (fun V (A1 : Option Addr) (d1 : Nat) (T1 : Option Addr) (e1 : Nat) (h6 : Cells V A1 1 Go.Bs.encI l) (h7 : Cells V T1 4 Th.enc ts) => Pack_any ⟨⟨⟨l, h, ca, em, re, ax, dk⟩, A1, d1⟩, T1, e1⟩ ts V (by simp only; omega) (by omega) h6 h7)
  have CLo := Lib.hid (fun V (A1 : Option Addr) (d1 : Nat) (T1 : Option Addr) (e1 : Nat) (h6 : Cells V A1 1 Go.Bs.encI l) (h7 : Cells V T1 4 Th.enc ts) => Load_any ⟨⟨⟨l, h, ca, em, re, ax, dk⟩, A1, d1⟩, T1, e1⟩ ts V (by simp only; omega) (by omega) h6 h7)
  unfold LoV.val at CPa CLo
  unfold PcR at CPa CLo
  simp only at CPa CLo
  have Hf0 := Lib.hid (fun (a : rightE ⟨l, h, ca, em, re, ax, dk⟩ ts (rows rs) = true) => first_plain (ld := false) h0 (by unfold rightE at a; rw [Bool.and_eq_true] at a; exact a.2) (fun e => by cases e))
  have Hf1 := Lib.hid (fun (a : loadE ⟨l, h, ca, em, re, ax, dk⟩ ts (rows rs) = true) => first_plain (ld := true) h0 (by unfold loadE rightE at a; rw [Bool.and_eq_true, Bool.and_eq_true] at a; exact a.1.2) (fun _ => by unfold loadE at a; rw [Bool.and_eq_true] at a; exact a.2))
  have HlenP0 := Lib.hid (packRes_rows (ts := ts) (ld := false) h0)
  have HlenP1 := Lib.hid (packRes_rows (ts := ts) (ld := true) h0)
  have Hln := Lib.hid (fun V (hV : Below w.heap.size w V) (x : Int) => lane_at R rs.length cR rs x V rfl (by omega) (HMM.out.ext hV) (fun r hr => by have := hr20 r hr; omega))
  generalize rightE ⟨l, h, ca, em, re, ax, dk⟩ ts (rows rs) = fr at *
  generalize loadE ⟨l, h, ca, em, re, ax, dk⟩ ts (rows rs) = fl at *
  generalize packRes ⟨l, h, ca, em, re, ax, dk⟩ ts false = p0 at *
  generalize packRes ⟨l, h, ca, em, re, ax, dk⟩ ts true = p1 at *
  obtain ⟨P0, c0⟩ := p0
  obtain ⟨P1, c1⟩ := p1
  clear h0 hlo Hb1 Hb2 hok hr20 hrF hrl
  simp only at Hf0 Hf1 CPa CLo
  go_wp2
  go_loopw [7, 8, 9, 10, 11, 12, 13] (fun t _ _ _ _ _ _ wr => ∃ z : Nat, t = .int .i64 z ∧ z ≤ 2 ∧ Below W1.heap.size W1 wr) (fun t _ _ _ _ _ _ _ => 2 - (intOf t).toNat)
  case atStart => exact ⟨0, rfl, by omega, Below.refl _ _⟩
  case round =>
    obtain ⟨z, rfl, hz, hbr⟩ := hrel
    have hbs := hbr
    replace hP := hP.ext hbr
    replace hb := ext_trans hb hbr
    clear hbr
    obtain ⟨V0, hV0⟩ : ∃ V, V = wr := ⟨_, rfl⟩
    subst hV0
    rcases (show z = 0 ∨ z = 1 ∨ z = 2 by omega) with rfl | rfl | rfl
    · rw [show ((0 : Nat) : Int) = 0 from rfl]
      have q0 : V0.cell? ⟨w.heap.size, 0, none⟩ = _ := hP.cell rfl
      have q1 : V0.cell? ⟨w.heap.size, 1, none⟩ = _ := hP.cell rfl
      have q2 : V0.cell? ⟨w.heap.size, 2, none⟩ = _ := hP.cell rfl
      have q3 : V0.cell? ⟨w.heap.size, 3, none⟩ = _ := hP.cell rfl
      have q4 : V0.cell? ⟨w.heap.size, 4, none⟩ = _ := hP.cell rfl
      have q5 : V0.cell? ⟨w.heap.size, 5, none⟩ = _ := hP.cell rfl
      have q6 : V0.cell? ⟨w.heap.size, 6, none⟩ = _ := hP.cell rfl
      go_wp2_with fail
      refine (CL.out _ hb).mono ?_; rintro e V1 ⟨⟨A1, d1, rfl, hA1⟩, hx⟩
      replace hbs := hbs.trans (hx.mono hbs.size)
      replace hb := ext_trans hb hx
      replace hP := hP.ext hx
      clear hx
      clear q0 q1 q2 q3 q4 q5 q6
      go_wp2_with fail
      refine (CTh.out _ hb).mono ?_; rintro e V2 ⟨⟨T1, e1, rfl, hT1⟩, hx⟩
      replace hbs := hbs.trans (hx.mono hbs.size)
      replace hb := ext_trans hb hx
      replace hP := hP.ext hx
      replace hA1 := hA1.ext hx
      clear hx
      go_wp2_with fail
      refine (CPa.out _ A1 d1 T1 e1 hA1 hT1).mono ?_; rintro e V3 ⟨hx, v1, rfl, ⟨Ap0, cp0, rp0, rfl, hrp0, hMp0, -, -⟩⟩
      replace hbs := hbs.trans (hx.mono hbs.size)
      replace hb := ext_trans hb hx
      replace hP := hP.ext hx
      clear hx hA1 hT1
      have q0 : V3.cell? ⟨w.heap.size, 0, none⟩ = _ := hP.cell rfl
      have q1 : V3.cell? ⟨w.heap.size, 1, none⟩ = _ := hP.cell rfl
      have q2 : V3.cell? ⟨w.heap.size, 2, none⟩ = _ := hP.cell rfl
      have q3 : V3.cell? ⟨w.heap.size, 3, none⟩ = _ := hP.cell rfl
      have q4 : V3.cell? ⟨w.heap.size, 4, none⟩ = _ := hP.cell rfl
      have q5 : V3.cell? ⟨w.heap.size, 5, none⟩ = _ := hP.cell rfl
      have q6 : V3.cell? ⟨w.heap.size, 6, none⟩ = _ := hP.cell rfl
      go_wp2_with fail
      refine (CL.out _ hb).mono ?_; rintro e V4 ⟨⟨A1, d1, rfl, hA1⟩, hx⟩
      replace hbs := hbs.trans (hx.mono hbs.size)
      replace hb := ext_trans hb hx
      replace hP := hP.ext hx
      replace hMp0 := hMp0.ext hx
      clear hx
      clear q0 q1 q2 q3 q4 q5 q6
      go_wp2_with fail
      refine (CTh.out _ hb).mono ?_; rintro e V5 ⟨⟨T1, e1, rfl, hT1⟩, hx⟩
      replace hbs := hbs.trans (hx.mono hbs.size)
      replace hb := ext_trans hb hx
      replace hP := hP.ext hx
      replace hA1 := hA1.ext hx
      replace hMp0 := hMp0.ext hx
      clear hx
      go_wp2_with fail
      refine (CLa.out _ hb).mono ?_; rintro e V6 ⟨⟨R1, f1, r1, rfl, hr1, hR1⟩, hx⟩
      replace hbs := hbs.trans (hx.mono hbs.size)
      replace hb := ext_trans hb hx
      replace hP := hP.ext hx
      replace hA1 := hA1.ext hx
      replace hT1 := hT1.ext hx
      replace hMp0 := hMp0.ext hx
      clear hx
      have hrn : r1.length = rs.length := by rw [← rows_len, hr1, rows_len]
      have CR1 := CR.out V6 A1 d1 T1 e1 R1 f1 r1 hr1 hrn hA1 hT1 hR1
      rw [hrn] at CR1
      replace CR1 := Lib.hid CR1
      clear hr1 hrn hA1 hT1 hR1
      go_wp2_with fail
      refine (CR1.out).mono ?_; rintro e V7 ⟨rfl, hx⟩
      replace hbs := hbs.trans (hx.mono hbs.size)
      replace hb := ext_trans hb hx
      replace hP := hP.ext hx
      replace hMp0 := hMp0.ext hx
      clear hx
      cases fr
      · go_wp2
        go_roundw
        case rel => exact ⟨1, by go_num, by omega, hbs⟩
        case measure => simp [intOf]
      obtain ⟨rfl, Hq0⟩ := Hf0.out rfl
      have Hq := Lib.hid Hq0
      have hpl := HlenP0.out
      have hrpl : rp0.length ≤ 6 := by rw [← rows_len, hrp0]; omega
      have Lq := Lib.hid (fun x => lane_at Ap0 rp0.length cp0 rp0 x _ rfl (by omega) hMp0 (fun r hr => by
        have := hpl.2 r.r (by rw [← hrp0]; exact List.mem_map.2 ⟨r, hr, rfl⟩)
        omega))
      rw [hrp0] at Lq
      have Lo := Lib.hid (fun x => Hln.out _ hb x)
      clear Hq0 hMp0 hpl Hf0 Hf1
      go_wp2
      go_loop [11, 12, 13] (fun t _ _ => ∃ k : Nat, t = .int .i64 k ∧ k ≤ ts.length ∧ Hid (∀ i, i < k → laneAt P0 (i : Int) = laneAt (rows rs) (i : Int))) (fun t _ _ => ts.length - (intOf t).toNat)
      case atStart => exact ⟨0, rfl, by omega, Lib.hid (by omega)⟩
      case round =>
        obtain ⟨k, rfl, hk, Hk⟩ := hrel
        by_cases hkt : k < ts.length
        · have hkt' : (k : Int) < (ts.length : Int) := by omega
          obtain ⟨ha, hbb, hle⟩ := Hq.out k hkt
          have hab := hle Hk.out
          have L1 := Lib.hid (Lq.out (k : Int))
          have L2 := Lib.hid (Lo.out (k : Int))
          have Hk2 := Lib.hid (show laneAt P0 (k : Int) = laneAt (rows rs) (k : Int) → ∀ i, i < k + 1 → laneAt P0 (i : Int) = laneAt (rows rs) (i : Int) from fun h5 i hi => by
            by_cases e : i = k
            · rw [e]; exact h5
            · exact Hk.out i (by omega))
          clear hle
          generalize laneAt P0 (k : Int) = a at *
          generalize laneAt (rows rs) (k : Int) = b at *
          go_wp2_with fail
          refine (L1.out).mono ?_; rintro e X1 ⟨rfl, rfl⟩
          go_wp2_with fail
          refine (L2.out).mono ?_; rintro e X1 ⟨rfl, rfl⟩
          clear L1 L2
          have ha' : ¬ a < 0 := by omega
          have hb' : ¬ b < a := by omega
          by_cases hlt : a < b
          · go_wp2
            go_roundw
            case rel => exact ⟨1, by go_num, by omega, hbs⟩
            case measure => simp [intOf]
          · have H3 := Lib.hid (Hk2.out (by omega))
            go_wp2
            go_round
            case rel => exact ⟨k + 1, by go_num, by omega, H3⟩
            case measure => simp [intOf]; omega
        · go_wp2
          go_roundw
          case rel => exact ⟨1, by go_num, by omega, hbs⟩
          case measure => simp [intOf]
    · rw [show ((1 : Nat) : Int) = 1 from rfl]
      have q0 : V0.cell? ⟨w.heap.size, 0, none⟩ = _ := hP.cell rfl
      have q1 : V0.cell? ⟨w.heap.size, 1, none⟩ = _ := hP.cell rfl
      have q2 : V0.cell? ⟨w.heap.size, 2, none⟩ = _ := hP.cell rfl
      have q3 : V0.cell? ⟨w.heap.size, 3, none⟩ = _ := hP.cell rfl
      have q4 : V0.cell? ⟨w.heap.size, 4, none⟩ = _ := hP.cell rfl
      have q5 : V0.cell? ⟨w.heap.size, 5, none⟩ = _ := hP.cell rfl
      have q6 : V0.cell? ⟨w.heap.size, 6, none⟩ = _ := hP.cell rfl
      go_wp2_with fail
      refine (CL.out _ hb).mono ?_; rintro e V1 ⟨⟨A1, d1, rfl, hA1⟩, hx⟩
      replace hbs := hbs.trans (hx.mono hbs.size)
      replace hb := ext_trans hb hx
      replace hP := hP.ext hx
      clear hx
      clear q0 q1 q2 q3 q4 q5 q6
      go_wp2_with fail
      refine (CTh.out _ hb).mono ?_; rintro e V2 ⟨⟨T1, e1, rfl, hT1⟩, hx⟩
      replace hbs := hbs.trans (hx.mono hbs.size)
      replace hb := ext_trans hb hx
      replace hP := hP.ext hx
      replace hA1 := hA1.ext hx
      clear hx
      go_wp2_with fail
      refine (CPa.out _ A1 d1 T1 e1 hA1 hT1).mono ?_; rintro e V3 ⟨hx, v1, rfl, ⟨Ap0, cp0, rp0, rfl, hrp0, hMp0, -, -⟩⟩
      replace hbs := hbs.trans (hx.mono hbs.size)
      replace hb := ext_trans hb hx
      replace hP := hP.ext hx
      clear hx hA1 hT1
      clear hrp0 hMp0
      have q0 : V3.cell? ⟨w.heap.size, 0, none⟩ = _ := hP.cell rfl
      have q1 : V3.cell? ⟨w.heap.size, 1, none⟩ = _ := hP.cell rfl
      have q2 : V3.cell? ⟨w.heap.size, 2, none⟩ = _ := hP.cell rfl
      have q3 : V3.cell? ⟨w.heap.size, 3, none⟩ = _ := hP.cell rfl
      have q4 : V3.cell? ⟨w.heap.size, 4, none⟩ = _ := hP.cell rfl
      have q5 : V3.cell? ⟨w.heap.size, 5, none⟩ = _ := hP.cell rfl
      have q6 : V3.cell? ⟨w.heap.size, 6, none⟩ = _ := hP.cell rfl
      go_wp2_with fail
      refine (CL.out _ hb).mono ?_; rintro e V4 ⟨⟨A1, d1, rfl, hA1⟩, hx⟩
      replace hbs := hbs.trans (hx.mono hbs.size)
      replace hb := ext_trans hb hx
      replace hP := hP.ext hx
      clear hx
      clear q0 q1 q2 q3 q4 q5 q6
      go_wp2_with fail
      refine (CTh.out _ hb).mono ?_; rintro e V5 ⟨⟨T1, e1, rfl, hT1⟩, hx⟩
      replace hbs := hbs.trans (hx.mono hbs.size)
      replace hb := ext_trans hb hx
      replace hP := hP.ext hx
      replace hA1 := hA1.ext hx
      clear hx
      go_wp2_with fail
      refine (CLa.out _ hb).mono ?_; rintro e V6 ⟨⟨R1, f1, r1, rfl, hr1, hR1⟩, hx⟩
      replace hbs := hbs.trans (hx.mono hbs.size)
      replace hb := ext_trans hb hx
      replace hP := hP.ext hx
      replace hA1 := hA1.ext hx
      replace hT1 := hT1.ext hx
      clear hx
      have hrn : r1.length = rs.length := by rw [← rows_len, hr1, rows_len]
      have CR1 := CR.out V6 A1 d1 T1 e1 R1 f1 r1 hr1 hrn hA1 hT1 hR1
      rw [hrn] at CR1
      replace CR1 := Lib.hid CR1
      clear hr1 hrn hA1 hT1 hR1
      go_wp2_with fail
      refine (CR1.out).mono ?_; rintro e V7 ⟨rfl, hx⟩
      replace hbs := hbs.trans (hx.mono hbs.size)
      replace hb := ext_trans hb hx
      replace hP := hP.ext hx
      clear hx
      have q0 : V7.cell? ⟨w.heap.size, 0, none⟩ = _ := hP.cell rfl
      have q1 : V7.cell? ⟨w.heap.size, 1, none⟩ = _ := hP.cell rfl
      have q2 : V7.cell? ⟨w.heap.size, 2, none⟩ = _ := hP.cell rfl
      have q3 : V7.cell? ⟨w.heap.size, 3, none⟩ = _ := hP.cell rfl
      have q4 : V7.cell? ⟨w.heap.size, 4, none⟩ = _ := hP.cell rfl
      have q5 : V7.cell? ⟨w.heap.size, 5, none⟩ = _ := hP.cell rfl
      have q6 : V7.cell? ⟨w.heap.size, 6, none⟩ = _ := hP.cell rfl
      go_wp2_with fail
      refine (CL.out _ hb).mono ?_; rintro e V8 ⟨⟨A1, d1, rfl, hA1⟩, hx⟩
      replace hbs := hbs.trans (hx.mono hbs.size)
      replace hb := ext_trans hb hx
      replace hP := hP.ext hx
      clear hx
      clear q0 q1 q2 q3 q4 q5 q6
      go_wp2_with fail
      refine (CTh.out _ hb).mono ?_; rintro e V9 ⟨⟨T1, e1, rfl, hT1⟩, hx⟩
      replace hbs := hbs.trans (hx.mono hbs.size)
      replace hb := ext_trans hb hx
      replace hP := hP.ext hx
      replace hA1 := hA1.ext hx
      clear hx
      go_wp2_with fail
      refine (CLo.out _ A1 d1 T1 e1 hA1 hT1).mono ?_; rintro e Va ⟨hx, v1, rfl, ⟨Ap1, cp1, rp1, rfl, hrp1, hMp1, -, -⟩⟩
      replace hbs := hbs.trans (hx.mono hbs.size)
      replace hb := ext_trans hb hx
      replace hP := hP.ext hx
      clear hx hA1 hT1
      have q0 : Va.cell? ⟨w.heap.size, 0, none⟩ = _ := hP.cell rfl
      have q1 : Va.cell? ⟨w.heap.size, 1, none⟩ = _ := hP.cell rfl
      have q2 : Va.cell? ⟨w.heap.size, 2, none⟩ = _ := hP.cell rfl
      have q3 : Va.cell? ⟨w.heap.size, 3, none⟩ = _ := hP.cell rfl
      have q4 : Va.cell? ⟨w.heap.size, 4, none⟩ = _ := hP.cell rfl
      have q5 : Va.cell? ⟨w.heap.size, 5, none⟩ = _ := hP.cell rfl
      have q6 : Va.cell? ⟨w.heap.size, 6, none⟩ = _ := hP.cell rfl
      go_wp2_with fail
      refine (CL.out _ hb).mono ?_; rintro e Vb ⟨⟨A1, d1, rfl, hA1⟩, hx⟩
      replace hbs := hbs.trans (hx.mono hbs.size)
      replace hb := ext_trans hb hx
      replace hP := hP.ext hx
      replace hMp1 := hMp1.ext hx
      clear hx
      clear q0 q1 q2 q3 q4 q5 q6
      go_wp2_with fail
      refine (CTh.out _ hb).mono ?_; rintro e Vc ⟨⟨T1, e1, rfl, hT1⟩, hx⟩
      replace hbs := hbs.trans (hx.mono hbs.size)
      replace hb := ext_trans hb hx
      replace hP := hP.ext hx
      replace hA1 := hA1.ext hx
      replace hMp1 := hMp1.ext hx
      clear hx
      go_wp2_with fail
      refine (CLa.out _ hb).mono ?_; rintro e Vd ⟨⟨R1, f1, r1, rfl, hr1, hR1⟩, hx⟩
      replace hbs := hbs.trans (hx.mono hbs.size)
      replace hb := ext_trans hb hx
      replace hP := hP.ext hx
      replace hA1 := hA1.ext hx
      replace hT1 := hT1.ext hx
      replace hMp1 := hMp1.ext hx
      clear hx
      have hrn : r1.length = rs.length := by rw [← rows_len, hr1, rows_len]
      have CO1 := CO.out Vd A1 d1 T1 e1 R1 f1 r1 hr1 hrn hA1 hT1 hR1
      rw [hrn] at CO1
      replace CO1 := Lib.hid CO1
      clear hr1 hrn hA1 hT1 hR1
      go_wp2_with fail
      refine (CO1.out).mono ?_; rintro e Ve ⟨rfl, hx⟩
      replace hbs := hbs.trans (hx.mono hbs.size)
      replace hb := ext_trans hb hx
      replace hP := hP.ext hx
      replace hMp1 := hMp1.ext hx
      clear hx
      cases fl
      · go_wp2
        go_roundw
        case rel => exact ⟨2, by go_num, by omega, hbs⟩
        case measure => simp [intOf]
      obtain ⟨rfl, Hq0⟩ := Hf1.out rfl
      have Hq := Lib.hid Hq0
      have hpl := HlenP1.out
      have hrpl : rp1.length ≤ 6 := by rw [← rows_len, hrp1]; omega
      have Lq := Lib.hid (fun x => lane_at Ap1 rp1.length cp1 rp1 x _ rfl (by omega) hMp1 (fun r hr => by
        have := hpl.2 r.r (by rw [← hrp1]; exact List.mem_map.2 ⟨r, hr, rfl⟩)
        omega))
      rw [hrp1] at Lq
      have Lo := Lib.hid (fun x => Hln.out _ hb x)
      clear Hq0 hMp1 hpl Hf0 Hf1
      go_wp2
      go_loop [11, 12, 13] (fun t _ _ => ∃ k : Nat, t = .int .i64 k ∧ k ≤ ts.length ∧ Hid (∀ i, i < k → laneAt P1 (i : Int) = laneAt (rows rs) (i : Int))) (fun t _ _ => ts.length - (intOf t).toNat)
      case atStart => exact ⟨0, rfl, by omega, Lib.hid (by omega)⟩
      case round =>
        obtain ⟨k, rfl, hk, Hk⟩ := hrel
        by_cases hkt : k < ts.length
        · have hkt' : (k : Int) < (ts.length : Int) := by omega
          obtain ⟨ha, hbb, hle⟩ := Hq.out k hkt
          have hab := hle Hk.out
          have L1 := Lib.hid (Lq.out (k : Int))
          have L2 := Lib.hid (Lo.out (k : Int))
          have Hk2 := Lib.hid (show laneAt P1 (k : Int) = laneAt (rows rs) (k : Int) → ∀ i, i < k + 1 → laneAt P1 (i : Int) = laneAt (rows rs) (i : Int) from fun h5 i hi => by
            by_cases e : i = k
            · rw [e]; exact h5
            · exact Hk.out i (by omega))
          clear hle
          generalize laneAt P1 (k : Int) = a at *
          generalize laneAt (rows rs) (k : Int) = b at *
          go_wp2_with fail
          refine (L1.out).mono ?_; rintro e X1 ⟨rfl, rfl⟩
          go_wp2_with fail
          refine (L2.out).mono ?_; rintro e X1 ⟨rfl, rfl⟩
          clear L1 L2
          have ha' : ¬ a < 0 := by omega
          have hb' : ¬ b < a := by omega
          by_cases hlt : a < b
          · go_wp2
            go_roundw
            case rel => exact ⟨2, by go_num, by omega, hbs⟩
            case measure => simp [intOf]
          · have H3 := Lib.hid (Hk2.out (by omega))
            go_wp2
            go_round
            case rel => exact ⟨k + 1, by go_num, by omega, H3⟩
            case measure => simp [intOf]; omega
        · go_wp2
          go_roundw
          case rel => exact ⟨2, by go_num, by omega, hbs⟩
          case measure => simp [intOf]
    · rw [show ((2 : Nat) : Int) = 2 from rfl]
      go_wp2_with fail
      refine (awake_any _).mono ?_; rintro e Wz ⟨rfl, hx⟩
      replace hb := ext_trans hb hx
      go_wp2
      go_ret
      exact ⟨rfl, hb⟩
end Go.Proofs.Ytbpmfaibcibleaa

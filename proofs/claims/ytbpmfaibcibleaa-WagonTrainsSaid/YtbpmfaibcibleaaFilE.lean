/- Lorries as an argument; the law WagonFills: its walk. -/
import Derived.Test.YtbpmfaibcibleaaWaR
import Derived.Test.YtbpmfaibcibleaaFilM
import Derived.Test.YtbpmfaibcibleaaFilD
import Derived.Test.YtbpmfaibcibleaaLawA
import Derived.Test.YtbpmfaibcibleaaLhpC
import Derived.Test.YtbpmfaibcibleaaAwkB
/- Wagon: lorries as an argument. -/
namespace Go.Proofs.Ytbpmfaibcibleaa
open Go.ChangeShapes Go.WideShapes Go.ChangeAt Go.RowKit Go.Joins Go.Bs Go.Deep Go.Wg
section
variable {H : Type} {enc : TypeId × Value → H} {w : World} {base : Nat} {spare : Nat → Bool} {held : Bool} {b0 : Nat} {v : Value} {d : DataW H} {p : List MemPlace}
set_option maxRecDepth 100000 in
theorem lorry_in {n : Nat} {cs : List Value} {y : DataW H × List MemPlace} (h : DataW.trod enc Try.prog w base spare held n 37 cs = some y) : ∃ x : LoV, cs = LoV.enc x ∧ Cells w x.A 1 Go.Bs.encI x.l.lanes ∧ x.l.lanes.length ≤ 9223372036854775807 := by
  obtain ⟨xs, m, _, _, hlen, hxl, hg⟩ := DataW.trod_struct Try.underlying37 h
  have hlen2 : cs.length = 7 := hlen.trans (by kernel_rfl)
  have g3 : Try.prog.cellsOf 3 = 1 := by kernel_rfl
  have g35 : Try.prog.cellsOf 35 = 1 := by kernel_rfl
  match cs, hlen2 with
  | [c0, c1, c2, c3, c4, c5, c6], _ =>
    match xs, hxl with
    | [y0, y1, y2, y3, y4, y5, y6], _ =>
      have a0 : DataW.trod enc Try.prog w base spare held m 35 (([c0, c1, c2, c3, c4, c5, c6].drop 0).take (Try.prog.cellsOf 35)) = some y0 := hg 0 _ rfl
      rw [g35] at a0
      have a0 : DataW.trod enc Try.prog w base spare held m 35 [c0] = some y0 := a0
      have a1 : DataW.trod enc Try.prog w base spare held m 3 (([c0, c1, c2, c3, c4, c5, c6].drop 1).take (Try.prog.cellsOf 3)) = some y1 := hg 1 _ rfl
      rw [g3] at a1
      have a1 : DataW.trod enc Try.prog w base spare held m 3 [c1] = some y1 := a1
      have a2 : DataW.trod enc Try.prog w base spare held m 3 (([c0, c1, c2, c3, c4, c5, c6].drop 2).take (Try.prog.cellsOf 3)) = some y2 := hg 2 _ rfl
      rw [g3] at a2
      have a2 : DataW.trod enc Try.prog w base spare held m 3 [c2] = some y2 := a2
      have a3 : DataW.trod enc Try.prog w base spare held m 3 (([c0, c1, c2, c3, c4, c5, c6].drop 3).take (Try.prog.cellsOf 3)) = some y3 := hg 3 _ rfl
      rw [g3] at a3
      have a3 : DataW.trod enc Try.prog w base spare held m 3 [c3] = some y3 := a3
      have a4 : DataW.trod enc Try.prog w base spare held m 3 (([c0, c1, c2, c3, c4, c5, c6].drop 4).take (Try.prog.cellsOf 3)) = some y4 := hg 4 _ rfl
      rw [g3] at a4
      have a4 : DataW.trod enc Try.prog w base spare held m 3 [c4] = some y4 := a4
      have a5 : DataW.trod enc Try.prog w base spare held m 3 (([c0, c1, c2, c3, c4, c5, c6].drop 5).take (Try.prog.cellsOf 3)) = some y5 := hg 5 _ rfl
      rw [g3] at a5
      have a5 : DataW.trod enc Try.prog w base spare held m 3 [c5] = some y5 := a5
      have a6 : DataW.trod enc Try.prog w base spare held m 3 (([c0, c1, c2, c3, c4, c5, c6].drop 6).take (Try.prog.cellsOf 3)) = some y6 := hg 6 _ rfl
      rw [g3] at a6
      have a6 : DataW.trod enc Try.prog w base spare held m 3 [c6] = some y6 := a6
      obtain ⟨k1, e1⟩ := int1_in Try.underlying3 a1
      obtain ⟨k2, e2⟩ := int1_in Try.underlying3 a2
      obtain ⟨k3, e3⟩ := int1_in Try.underlying3 a3
      obtain ⟨k4, e4⟩ := int1_in Try.underlying3 a4
      obtain ⟨k5, e5⟩ := int1_in Try.underlying3 a5
      obtain ⟨k6, e6⟩ := int1_in Try.underlying3 a6
      simp at e1
      subst e1
      simp at e2
      subst e2
      simp at e3
      subst e3
      simp at e4
      subst e4
      simp at e5
      subst e5
      simp at e6
      subst e6
      obtain ⟨A, n, c, l, e, hl, hlc, hm, hc⟩ := ints_in a0
      subst e
      refine ⟨⟨⟨l, k1, k2, k3, k4, k5, k6⟩, A, c⟩, by unfold LoV.enc; simp only [hl], hc, ?_⟩
      show l.length ≤ _
      unfold maxLen at hm
      omega
set_option maxRecDepth 100000 in
theorem lorries_arg (hv : Value.okWide Try.prog w .any b0 88 v) (h : DataW.Trod enc Try.prog w base spare held 88 v d p) :
    ∃ A n c ls, v = .slice A n c ∧ ls.length = n ∧ n ≤ c ∧ n ≤ 9223372036854775807 ∧ LsM w A ls ∧ ∀ x ∈ ls, x.l.lanes.length ≤ 9223372036854775807 := by
  obtain ⟨A, n, c, rfl⟩ := okWide_slice Try.underlying88 hv
  obtain ⟨fuel, hf⟩ := h
  haveI : Inhabited {x : LoV // Cells w x.A 1 Go.Bs.encI x.l.lanes ∧ x.l.lanes.length ≤ 9223372036854775807} := ⟨⟨⟨⟨[], 0, 0, 0, 0, 0, 0⟩, none, 0⟩, Cells.nil, by decide⟩⟩
  obtain ⟨A', n', c', l, e, hl, hlc, hcm, hc⟩ := rows_in (sz := 7) Try.underlying88 (by kernel_rfl) (by decide) (fun x : {x : LoV // Cells w x.A 1 Go.Bs.encI x.l.lanes ∧ x.l.lanes.length ≤ 9223372036854775807} => LoV.enc x.1) (fun _ _ _ h => by
    obtain ⟨x, h1, h2, h3⟩ := lorry_in h
    exact ⟨⟨x, h2, h3⟩, h1⟩) hf
  cases e
  refine ⟨A, n, c, l.map (·.1), rfl, by rw [List.length_map, hl], hlc, by unfold maxLen at hcm; omega, ⟨fun i x hx => ?_, fun x hx => ?_⟩, fun x hx => ?_⟩
  · rw [List.getElem?_map] at hx
    obtain ⟨z, hz, rfl⟩ := Option.map_eq_some_iff.1 hx
    exact hc i z hz
  · obtain ⟨z, _, rfl⟩ := List.mem_map.1 hx
    exact z.2.1
  · obtain ⟨z, _, rfl⟩ := List.mem_map.1 hx
    exact z.2.2
end
end Go.Proofs.Ytbpmfaibcibleaa

/- The law WagonFills: its walk. (Printed by mk_file.py.) -/
namespace Go.Wg
open Go.RowKit Go.Bs Go.Pl
theorem fill_mem (ts : List Th) : ∀ (ls : List Lo) (rest : List Int) (P : List (List Int)), P ∈ fillP ts ls rest → (∃ l ∈ ls, P.length = l.lanes.length) ∧ ∀ r ∈ P, r.length ≤ rest.length
  | [], _, P, h => by simp [fillP] at h
  | l :: ls, rest, P, h => by
    rw [fillP] at h
    rcases List.mem_cons.1 h with rfl | h
    · have hf := best_flat l ts rest
      refine ⟨⟨l, by simp, hf.1⟩, fun r hr => ?_⟩
      have h1 : r.length ≤ (bestF l ts rest).flatten.length := (List.sublist_flatten_of_mem hr).length_le
      rw [hf.2.length_eq, List.length_take] at h1
      omega
    · obtain ⟨⟨x, hx, h1⟩, h2⟩ := fill_mem ts ls _ P h
      refine ⟨⟨x, by simp [hx], h1⟩, fun r hr => ?_⟩
      have := h2 r hr
      rw [List.length_drop] at this
      omega
theorem pks_nil {ps : List PkV} (h : pks ps = []) : ps = [] := by cases ps with | nil => rfl | cons a b => simp [pks] at h
theorem pks_mem {ps : List PkV} {x : PkV} (h : x ∈ ps) : rows x.rs ∈ pks ps := List.mem_map.2 ⟨x, h, rfl⟩
/-- sizes of what Fill returns -/
def SmP (P : List (List (List Int))) : Prop := ∀ p ∈ P, p.length ≤ 100 ∧ ∀ r ∈ p, r.length ≤ 100
theorem fill_small {ts : List Th} {ls : List Lo} (h1 : ∀ l ∈ ls, l.lanes.length ≤ 10) (h2 : ts.length ≤ 20) : SmP (fillP ts ls (byNeed ts)) := fun p hp => by
  obtain ⟨⟨l, hl, h3⟩, h4⟩ := fill_mem ts ls _ p hp
  refine ⟨by have := h1 l hl; omega, fun r hr => by have := h4 r hr; rw [byNeed_len] at this; omega⟩
theorem SmP.at {P : List (List (List Int))} (h : SmP P) {ps : List PkV} (hp : pks ps = P) {x : PkV} (hx : x ∈ ps) : x.rs.length ≤ 1000000000 ∧ ∀ y ∈ x.rs, y.r.length ≤ 1000000000 := by
  have h1 := h (rows x.rs) (by rw [← hp]; exact pks_mem hx)
  rw [rows_len] at h1
  exact ⟨by omega, fun y hy => by have := h1.2 y.r (List.mem_map.2 ⟨y, hy, rfl⟩); omega⟩
end Go.Wg
namespace Go.Proofs.Ytbpmfaibcibleaa
open Go.RowKit Go.Bs Go.Wg Go.Pl Go.Sort
set_option maxRecDepth 100000 in
set_option maxHeartbeats 8000000 in
theorem fills_law (A : Option Addr) (n c : Nat) (ls : List LoV) (T : Option Addr) (m cT : Nat) (ts : List Th) (w : World) (hn : ls.length = n) (hn0 : n ≤ 9223372036854775807) (hM : LsM w A ls) (hll : ∀ x ∈ ls, x.l.lanes.length ≤ 9223372036854775807) (hm : ts.length = m) (hm0 : m ≤ 9223372036854775807) (ht : Cells w T 4 Th.enc ts) :
    Calls Try.prog 14 #[.slice A n c, .slice T m cT] w fun e w' => e = .returned (.bool true) ∧ Below w.heap.size w w' := by
  have Hn := Lib.hid hn
  have Hm := Lib.hid hm
  have HM := Lib.hid hM
  have Ht := Lib.hid ht
  have Hll := Lib.hid hll
  obtain ⟨bad, hbad⟩ : ∃ b, decide (8 < n ∨ (9 < m ∧ m ≤ 40) ∨ 42 < m) = b := ⟨_, rfl⟩
  have Hbad := Lib.hid hbad
  clear hn hm hM ht hll hbad
  go_enter Try.func14, Try.ntmps14
  go_upto_region 1 with fail
  go_cut [30] from 13 to 29 (fun b W => b = .bool bad ∧ Below w.heap.size w W)
  case first =>
    rcases (show 8 < n ∨ (¬ 8 < n ∧ 9 < m ∧ m ≤ 40) ∨ (¬ 8 < n ∧ 9 < m ∧ ¬ m ≤ 40 ∧ ¬ 42 < m) ∨ (¬ 8 < n ∧ 9 < m ∧ ¬ m ≤ 40 ∧ 42 < m) ∨ (¬ 8 < n ∧ ¬ 9 < m) by omega) with h1 | ⟨h1, h2, h3⟩ | ⟨h1, h2, h3, h4⟩ | ⟨h1, h2, h3, h4⟩ | ⟨h1, h2⟩
    · have g1 : (8 : Int) < (n : Int) := by omega
      have Hb := Lib.hid (show true = bad by rw [← Hbad.out]; exact (decide_eq_true (by omega)).symm)
      go_wp2
      go_meet
      case rel => exact ⟨by rw [← Hb.out], Below.refl _ _⟩
    · have g1 : ¬ (8 : Int) < (n : Int) := by omega
      have g2 : (9 : Int) < (m : Int) := by omega
      have g3 : (m : Int) ≤ 40 := by omega
      have Hb := Lib.hid (show true = bad by rw [← Hbad.out]; exact (decide_eq_true (by omega)).symm)
      go_wp2
      go_meet
      case rel => exact ⟨by rw [← Hb.out], Below.refl _ _⟩
    · have g1 : ¬ (8 : Int) < (n : Int) := by omega
      have g2 : (9 : Int) < (m : Int) := by omega
      have g3 : ¬ (m : Int) ≤ 40 := by omega
      have g4 : ¬ (42 : Int) < (m : Int) := by omega
      have Hb := Lib.hid (show false = bad by rw [← Hbad.out]; exact (decide_eq_false (by omega)).symm)
      go_wp2
      go_meet
      case rel => exact ⟨by rw [← Hb.out], Below.refl _ _⟩
    · have g1 : ¬ (8 : Int) < (n : Int) := by omega
      have g2 : (9 : Int) < (m : Int) := by omega
      have g3 : ¬ (m : Int) ≤ 40 := by omega
      have g4 : (42 : Int) < (m : Int) := by omega
      have Hb := Lib.hid (show true = bad by rw [← Hbad.out]; exact (decide_eq_true (by omega)).symm)
      go_wp2
      go_meet
      case rel => exact ⟨by rw [← Hb.out], Below.refl _ _⟩
    · have g1 : ¬ (8 : Int) < (n : Int) := by omega
      have g2 : ¬ (9 : Int) < (m : Int) := by omega
      have g4 : ¬ (42 : Int) < (m : Int) := by omega
      have Hb := Lib.hid (show false = bad by rw [← Hbad.out]; exact (decide_eq_false (by omega)).symm)
      go_wp2
      go_meet
      case rel => exact ⟨by rw [← Hb.out], Below.refl _ _⟩
  case rest =>
  obtain ⟨rfl, hb⟩ := hcut
  generalize wc = W0 at *
  cases bad with
  | true =>
    go_wp2_with fail
    refine (awake_any _).mono ?_; rintro e Wz ⟨rfl, hxz⟩
    have hbz := ext_trans hb hxz
    go_wp2
    go_ret
    exact ⟨rfl, hbz⟩
  | false =>
  have h3 := of_decide_eq_false Hbad.out
  have hn8 : n ≤ 8 := by omega
  have hmm : m ≤ 9 ∨ (40 < m ∧ m ≤ 42) := by omega
  clear h3 Hbad
  obtain ⟨f0, hf0⟩ : ∃ b, btw (n : Int) 1 6 = b := ⟨_, rfl⟩
  have Hf0 := Lib.hid hf0
  clear hf0
  go_upto_region 3 with fail
  go_cut [5] from 32 to 39 (fun b W => b = .bool f0 ∧ Below w.heap.size w W)
  case first =>
    rcases (show n < 1 ∨ (1 ≤ n ∧ n ≤ 6) ∨ (1 ≤ n ∧ ¬ n ≤ 6) by omega) with h1 | ⟨h1, h2⟩ | ⟨h1, h2⟩
    · have g1 : ¬ (1 : Int) ≤ (n : Int) := by omega
      have Hb := Lib.hid (show false = f0 by rw [← Hf0.out]; unfold btw; exact (decide_eq_false (by omega)).symm)
      go_wp2
      go_meet
      case rel => exact ⟨by rw [← Hb.out], hb⟩
    · have g1 : (1 : Int) ≤ (n : Int) := by omega
      have g2 : (n : Int) ≤ 6 := by omega
      have Hb := Lib.hid (show true = f0 by rw [← Hf0.out]; unfold btw; exact (decide_eq_true (by omega)).symm)
      go_wp2
      go_meet
      case rel => exact ⟨by rw [← Hb.out], hb⟩
    · have g1 : (1 : Int) ≤ (n : Int) := by omega
      have g2 : ¬ (n : Int) ≤ 6 := by omega
      have Hb := Lib.hid (show false = f0 by rw [← Hf0.out]; unfold btw; exact (decide_eq_false (by omega)).symm)
      go_wp2
      go_meet
      case rel => exact ⟨by rw [← Hb.out], hb⟩
  case rest =>
  obtain ⟨rfl, hb2⟩ := hcut
  generalize wc = W1 at *
  clear hb
  go_wp2
  go_loopw [5, 6] (fun f t wr => ∃ (k : Nat) (q : Bool), t = .int .i64 k ∧ k ≤ n ∧ f = .bool q ∧ Hid (q = (f0 && (ls.take k).all fun x => x.l.okB)) ∧ Hid (∀ x ∈ ls.take k, x.l.lanes.length ≤ 10) ∧ Below w.heap.size w wr) (fun _ t _ => n - (intOf t).toNat)
  case atStart => exact ⟨0, f0, rfl, by omega, rfl, Lib.hid (by simp), Lib.hid (by simp), hb2⟩
  case round =>
    clear hb2
    obtain ⟨k, q, rfl, hk, rfl, Hq, Hth, hb⟩ := hrel
    by_cases hlt : k < n
    · have hlt' : (k : Int) < (n : Int) := by omega
      have hkl : k < ls.length := by rw [Hn.out]; exact hlt
      obtain ⟨b, off, rfl, -, d0, d1, d2, d3, d4, d5, d6⟩ := (HM.out.ext hb).hdr.at7 hkl rfl
      have hrow := HM.out.row _ (List.getElem_mem hkl)
      have hll := Hll.out _ (List.getElem_mem hkl)
      have Htk := Lib.hid (show ls.take (k + 1) = ls.take k ++ [ls[k]] from List.take_succ_eq_append_getElem hkl)
      obtain ⟨x, hx⟩ : ∃ x, ls[k] = x := ⟨_, rfl⟩
      rw [hx] at d0 d1 d2 d3 d4 d5 d6 hrow hll Htk
      clear hx
      obtain ⟨⟨lanes, h, ca, em, re, ax, dk⟩, xA, xc⟩ := x
      simp only at d0 d1 d2 d3 d4 d5 d6 hrow hll
      have CT := Lib.hid (Thin_any xA lanes.length xc h ca em re ax dk wr)
      have CR := Lib.hid (fun V (hV : Below w.heap.size w V) => rlorry_any xA lanes.length xc h ca em re ax dk lanes V rfl hll (hrow.ext hV))
      have Hq2 := Lib.hid (show (f0 && (ls.take (k + 1)).all fun x => x.l.okB) = (q && Lo.okB ⟨lanes, h, ca, em, re, ax, dk⟩) by rw [Htk.out, List.all_append, Hq.out]; simp [Bool.and_assoc])
      obtain ⟨b1, hb1⟩ : ∃ b, decide (lanes.length ≤ 10) = b := ⟨_, rfl⟩
      rw [hb1] at CT
      have Hb1 := Lib.hid hb1
      generalize Lo.okB ⟨lanes, h, ca, em, re, ax, dk⟩ = b2 at *
      clear hb1 hrow hll
      go_wp2_with fail
      refine CT.out.mono ?_; rintro e V1 ⟨rfl, hx1⟩
      have hbV := ext_trans hb hx1
      clear CT
      cases b1 with
      | false =>
        go_wp2_with fail
        refine (awake_any _).mono ?_; rintro e Wz ⟨rfl, hxz⟩
        have hbz := ext_trans hbV hxz
        go_wp2
        go_ret
        exact ⟨rfl, hbz⟩
      | true =>
        have Hth2 := Lib.hid (show ∀ x ∈ ls.take (k + 1), x.l.lanes.length ≤ 10 from fun x hx => by
          rw [Htk.out] at hx
          rcases List.mem_append.1 hx with h5 | h5
          · exact Hth.out x h5
          · rw [List.mem_singleton.1 h5]; exact of_decide_eq_true Hb1.out)
        cases q with
        | false =>
          clear d0 d1 d2 d3 d4 d5 d6
          go_wp2
          go_roundw
          case rel => exact ⟨k + 1, false, by go_num, by omega, rfl, Lib.hid (by rw [Hq2.out]; rfl), Hth2, hbV⟩
          case measure => simp [intOf]; omega
        | true =>
          have e0 := cell_ext d0 hx1
          have e1 := cell_ext d1 hx1
          have e2 := cell_ext d2 hx1
          have e3 := cell_ext d3 hx1
          have e4 := cell_ext d4 hx1
          have e5 := cell_ext d5 hx1
          have e6 := cell_ext d6 hx1
          clear d0 d1 d2 d3 d4 d5 d6
          go_wp2_with fail
          refine (CR.out _ hbV).mono ?_; rintro e V2 ⟨rfl, hx2⟩
          have hbV2 := ext_trans hbV hx2
          clear e0 e1 e2 e3 e4 e5 e6
          go_wp2
          go_roundw
          case rel => exact ⟨k + 1, b2, by go_num, by omega, rfl, Lib.hid (by rw [Hq2.out]; rfl), Hth2, hbV2⟩
          case measure => simp [intOf]; omega
    · obtain rfl : k = n := by omega
      have htl : ls.take k = ls := List.take_of_length_le (by rw [Hn.out]; exact Nat.le_refl _)
      rw [htl] at Hq Hth
      clear htl
      have Hten := Hth
      have CLo := Lib.hid (fun V (hV : Below w.heap.size w V) => lorries_any A k c ls V Hn.out (by omega) (HM.out.ext hV) (fun x hx => by have := Hten.out x hx; omega))
      have CTh := Lib.hid (fun V (hV : Below w.heap.size w V) => thingsC T cT ts V (by rw [Hm.out]; omega) (Ht.out.ext hV))
      rw [Hm.out] at CTh
      have CFi := Lib.hid (fun V A2 c2 (ls2 : List LoV) T2 cT2 (e1 : ls2.map LoV.l = ls.map LoV.l) (h1 : LsM V A2 ls2) (h2 : Cells V T2 4 Th.enc ts) => Fill_any A2 k c2 ls2 T2 m cT2 ts V (by have := congrArg List.length e1; rw [List.length_map, List.length_map, Hn.out] at this; exact this) (by omega) h1 (fun x hx => by
        have h3 : x.l ∈ ls.map LoV.l := by rw [← e1]; exact List.mem_map.2 ⟨x, hx, rfl⟩
        obtain ⟨y, hy, h4⟩ := List.mem_map.1 h3
        have := Hten.out y hy
        rw [← h4]; omega) Hm.out (by omega) h2 (by omega))
      unfold FlR at CFi
      go_wp2_with fail
      refine (CLo.out _ hb).mono ?_; rintro e V1 ⟨⟨A2, c2, ls2, rfl, hl2, hM2⟩, hx⟩
      replace hb := ext_trans hb hx
      clear hx CLo
      go_wp2_with fail
      refine (CTh.out _ hb).mono ?_; rintro e V2 ⟨⟨T2, cT2, rfl, hT2⟩, hx⟩
      replace hb := ext_trans hb hx
      replace hM2 := hM2.ext hx
      clear hx CTh
      have CF := CFi.out V2 A2 c2 ls2 T2 cT2 hl2 hM2 hT2
      rw [hl2] at CF
      replace CF := Lib.hid CF
      clear hl2 hM2 hT2 CFi
      go_wp2_with fail
      refine CF.out.mono ?_; rintro e V3 ⟨hx, v, rfl, ⟨Av, cv, pv, rfl, hpv, hMv⟩⟩
      replace hb := ext_trans hb hx
      clear hx CF
      have Hfr := Lib.hid (show fillRes (ls.map LoV.l) ts = if q then (if cargoE ts 40 = 0 then (if fillR ts (ls.map LoV.l) (byNeed ts) = [] then (fillP ts (ls.map LoV.l) (byNeed ts), 0) else ([], 7)) else ([], cargoE ts 40)) else ([], 1) by
        unfold fillRes; rw [List.length_map, Hn.out, List.all_map, Hf0.out, Hq.out]; rfl)
      have Hcg := Lib.hid (show cargoE ts 40 = if 40 < m then 3 else if ts.all Th.okB then 0 else 1 by unfold cargoE; rw [Hm.out])
      cases q with
      | false =>
        have hfr : fillRes (ls.map LoV.l) ts = ([], 1) := by rw [Hfr.out]; rfl
        rw [hfr] at hpv ⊢
        obtain rfl := pks_nil hpv
        clear hpv hMv hfr
        go_wp2_with fail
        refine (awake_any _).mono ?_; rintro e Wz ⟨rfl, hxz⟩
        have hbz := ext_trans hb hxz
        go_wp2
        go_ret
        exact ⟨rfl, hbz⟩
      | true =>
      by_cases h40 : 40 < m
      · have h40' : (40 : Int) < (m : Int) := by omega
        have hfr : fillRes (ls.map LoV.l) ts = ([], 3) := by rw [Hfr.out, Hcg.out, if_pos h40]; rfl
        rw [hfr] at hpv ⊢
        obtain rfl := pks_nil hpv
        clear hpv hMv hfr h40
        go_wp2_with fail
        refine (awake_any _).mono ?_; rintro e Wz ⟨rfl, hxz⟩
        have hbz := ext_trans hb hxz
        go_wp2
        go_ret
        exact ⟨rfl, hbz⟩
      have h40' : ¬ (40 : Int) < (m : Int) := by omega
      have CRt := Lib.hid (fun V (hV : Below w.heap.size w V) => rthings_any T m cT ts V Hm.out (by omega) (Ht.out.ext hV))
      have Hcg2 := Lib.hid (show cargoE ts 40 = if ts.all Th.okB then 0 else 1 by rw [Hcg.out, if_neg h40])
      obtain ⟨b3, hb3⟩ : ∃ b, ts.all Th.okB = b := ⟨_, rfl⟩
      rw [hb3] at CRt Hcg2
      have Hb3 := Lib.hid hb3
      clear hb3
      go_wp2_with fail
      refine (CRt.out _ hb).mono ?_; rintro e V4 ⟨rfl, rfl⟩
      clear CRt
      cases b3 with
      | false =>
        have hfr : fillRes (ls.map LoV.l) ts = ([], 1) := by rw [Hfr.out, Hcg2.out]; rfl
        rw [hfr] at hpv ⊢
        obtain rfl := pks_nil hpv
        clear hpv hMv hfr
        go_wp2_with fail
        refine (awake_any _).mono ?_; rintro e Wz ⟨rfl, hxz⟩
        have hbz := ext_trans hb hxz
        go_wp2
        go_ret
        exact ⟨rfl, hbz⟩
      | true =>
      have hok : ∀ t ∈ ts, t.Ok := fun t h9 => Th.ok_iff.1 (List.all_eq_true.1 Hb3.out t h9)
      have hlo : ∀ x ∈ ls, x.l.Ok := fun x h9 => by
        have h8 := Hq.out.symm
        rw [Bool.and_eq_true] at h8
        exact Lo.ok_iff.1 (List.all_eq_true.1 h8.2 x h9)
      have hsm : SmP (fillP ts (ls.map LoV.l) (byNeed ts)) := fill_small (fun l hl => by
        obtain ⟨y, hy, h4⟩ := List.mem_map.1 hl
        have := Hten.out y hy
        rw [← h4]; exact this) (by rw [Hm.out]; omega)
      have CRF := Lib.hid (fun V (hV : Below w.heap.size w V) => RFill_any A k c ls T m cT ts V Hn.out (by omega) (HM.out.ext hV) hlo Hm.out (by omega) (Ht.out.ext hV) hok)
      unfold FrR at CRF
      have Hfr2 := Lib.hid (show fillRes (ls.map LoV.l) ts = if decide (fillR ts (ls.map LoV.l) (byNeed ts) = []) then (fillP ts (ls.map LoV.l) (byNeed ts), 0) else ([], 7) by
        rw [Hfr.out, Hcg2.out]; by_cases h9 : fillR ts (ls.map LoV.l) (byNeed ts) = [] <;> simp [h9])
      clear Hfr Hcg Hcg2 hok hlo Hb3 Hq Hten Hth
      obtain ⟨b4, hb4⟩ : ∃ b, decide (fillR ts (ls.map LoV.l) (byNeed ts) = []) = b := ⟨_, rfl⟩
      rw [hb4] at CRF Hfr2
      have hFl : (fillP ts (ls.map LoV.l) (byNeed ts)).length = k := by rw [fillP_len, List.length_map, Hn.out]
      generalize fillP ts (ls.map LoV.l) (byNeed ts) = FP at *
      have HFl := Lib.hid hFl
      clear hb4 hFl
      go_wp2_with fail
      refine (CRF.out _ hb).mono ?_; rintro e V5 ⟨hx, v, rfl, ⟨Ax, cx, px, rfl, hpx, hMx⟩⟩
      replace hb := ext_trans hb hx
      replace hMv := hMv.ext hx
      clear hx CRF
      cases b4 with
      | false =>
        have hfr : fillRes (ls.map LoV.l) ts = ([], 7) := by rw [Hfr2.out]; rfl
        rw [hfr] at hpv ⊢
        obtain rfl := pks_nil hpv
        clear hpv hMv hfr hMx hpx
        go_wp2_with fail
        refine (awake_any _).mono ?_; rintro e Wz ⟨rfl, hxz⟩
        have hbz := ext_trans hb hxz
        go_wp2
        go_ret
        exact ⟨rfl, hbz⟩
      | true =>
      have hfr : fillRes (ls.map LoV.l) ts = (FP, 0) := by rw [Hfr2.out]; rfl
      rw [hfr] at hpv ⊢
      have hlen : pv.length = px.length := by rw [← pks_len, hpv, ← pks_len, hpx]
      rw [hlen]
      have Hlen := Lib.hid hlen
      have Hpv := Lib.hid hpv
      have Hpx := Lib.hid hpx
      have Hsm := Lib.hid hsm
      have HMv := Lib.hid hMv
      have HMx := Lib.hid hMx
      have hlb : px.length ≤ 8 := by rw [← pks_len, hpx, HFl.out]; exact hn8
      generalize hln : px.length = ln at *
      have Hln := Lib.hid hln
      clear hpv hpx hsm hMv hMx hlen hfr hln Hfr2
      go_upto_region 28 with fail
      have Hb := Lib.hid hb
      clear hb
      generalize V5 = U at *
      go_wp2
      go_loopw [12] (fun t wr => ∃ i : Nat, t = .int .i64 i ∧ i ≤ ln ∧ Below U.heap.size U wr) (fun t _ => ln - (intOf t).toNat)
      case atStart => exact ⟨0, rfl, by omega, Below.refl _ _⟩
      case round =>
        obtain ⟨i, rfl, hi, hbr⟩ := hrel
        by_cases hli : i < ln
        · have hli' : (i : Int) < (ln : Int) := by omega
          have hiv : i < pv.length := by rw [Hlen.out]; exact hli
          have hix : i < px.length := by rw [Hln.out]; exact hli
          have m1 := HMv.out.ext hbr
          have m2 := HMx.out.ext hbr
          obtain ⟨b1, o1, rfl, -, c1⟩ := m1.hdr.at1 hiv rfl
          obtain ⟨b2, o2, rfl, -, c2⟩ := m2.hdr.at1 hix rfl
          have r1 := m1.row _ (List.getElem_mem hiv)
          have r2 := m2.row _ (List.getElem_mem hix)
          have s1 := Hsm.out.at Hpv.out (List.getElem_mem hiv)
          have s2 := Hsm.out.at Hpx.out (List.getElem_mem hix)
          have heq : rows pv[i].rs = rows px[i].rs := by
            have h7 : (pks pv)[i]? = (pks px)[i]? := by rw [Hpv.out, Hpx.out]
            unfold pks at h7
            rw [List.getElem?_map, List.getElem?_map, List.getElem?_eq_getElem hiv, List.getElem?_eq_getElem hix] at h7
            simpa using h7
          obtain ⟨y1, hy1⟩ : ∃ y, pv[i] = y := ⟨_, rfl⟩
          obtain ⟨y2, hy2⟩ : ∃ y, px[i] = y := ⟨_, rfl⟩
          rw [hy1] at c1 r1 s1 heq
          rw [hy2] at c2 r2 s2 heq
          clear hy1 hy2 m1 m2
          obtain ⟨rs1, A1, k1⟩ := y1
          obtain ⟨rs2, A2', k2⟩ := y2
          simp only at c1 c2 r1 r2 s1 s2 heq
          go_upto_region 31 with fail
          refine Dr.wp_region_plan 10 [] (.q [0, 1, 2, 3, 4, 5, 6, 7] (.e1 8 (.q [9] .done))) (by kernel_rfl) (by kernel_rfl) ?_
          have hbd := hbr.trans ((ext_drew wr).mono hbr.size)
          have CS := same_any A1 A2' rs1.length rs2.length k1 k2 rs1 rs2 wr.drew rfl rfl s1.1 s2.1 (r1.ext (ext_drew wr)) (r2.ext (ext_drew wr)) s1.2 s2.2
          rw [decide_eq_true heq] at CS
          replace CS := Lib.hid CS
          have q1 := Dr.cell0 (w := wr.drew) (show wr.drew.cell? _ = _ from c1)
          have q2 := Dr.cell0 (w := wr.drew) (show wr.drew.cell? _ = _ from c2)
          clear c1 c2 r1 r2 s1 s2 heq hbr
          generalize World.drew wr = Y at *
          with_reducible refine Dr.plan_q (l := [_, _, _, _, _, _, _, _]) (by with_unfolding_all exact rfl) (fun K hK => ?_)
          iterate 8 (go_big_quiet_step (fail))
          refine wpQuiet_nil (hK _ ?_); clear hK K
          refine Dr.plan_e rfl (by rfl) (fun K hK => ?_)
          go_wp2_with fail
          refine CS.out.mono ?_; rintro e Y2 ⟨rfl, hx⟩
          refine hK _ _ (.of hx) ?_; clear hK K
          have hbn := hbd.trans (hx.mono hbd.size)
          clear CS hx q1 q2
          with_reducible refine Dr.plan_q (l := [_]) (by with_unfolding_all exact rfl) (fun K hK => ?_)
          iterate 1 (go_big_quiet_step (fail))
          refine wpQuiet_nil (hK _ ?_); clear hK K
          refine Dr.plan_end rfl ?_
          go_wp2
          go_roundw
          case rel => exact ⟨i + 1, by go_num, by omega, hbn⟩
          case measure => simp [intOf]; omega
        · obtain rfl : i = ln := by omega
          have hb := Hb.out.trans (hbr.mono Hb.out.size)
          go_wp2_with fail
          refine (awake_any _).mono ?_; rintro e Wz ⟨rfl, hxz⟩
          have hbz := ext_trans hb hxz
          go_wp2
          go_ret
          exact ⟨rfl, hbz⟩
end Go.Proofs.Ytbpmfaibcibleaa

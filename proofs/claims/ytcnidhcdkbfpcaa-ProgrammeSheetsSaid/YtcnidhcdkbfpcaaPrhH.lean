/- Walks: is a show small? the reference's below. -/
import Derived.Test.YtcnidhcdkbfpcaaPrhG
namespace Go.Pg
/-- has a show few acts, casts, persons, kinds, pairs? -/
def Sh.fewB (s : Sh) : Bool := s.acts.all (fun a => decide (a.casts.length ≤ 6)) && (decide (s.acts.length ≤ 12) && decide (s.rest.length ≤ 20) && decide (s.ins.length ≤ 15) && decide (s.outs.length ≤ 15) && decide (s.before.length ≤ 30))
theorem Sh.few_iff {s : Sh} : s.fewB = true ↔ (∀ a ∈ s.acts, a.casts.length ≤ 6) ∧ s.acts.length ≤ 12 ∧ s.rest.length ≤ 20 ∧ s.ins.length ≤ 15 ∧ s.outs.length ≤ 15 ∧ s.before.length ≤ 30 := by
  simp only [fewB, Bool.and_eq_true, List.all_eq_true, decide_eq_true_eq]
  constructor
  · rintro ⟨h1, ⟨⟨⟨h2, h3⟩, h4⟩, h5⟩, h6⟩; exact ⟨h1, h2, h3, h4, h5, h6⟩
  · rintro ⟨h1, h2, h3, h4, h5, h6⟩; exact ⟨h1, ⟨⟨⟨h2, h3⟩, h4⟩, h5⟩, h6⟩
end Go.Pg
namespace Go.Proofs.Ytcnidhcdkbfpcaa
open Go.RowKit Go.Bs Go.Pg Go.Pl Go.Sort
/-- a show that came in: no bound but what its types tell -/
structure ShW (w : World) (s : Sh) (p : ShP) : Prop where
  eq : p.av.map AcV.a = s.acts
  acts : Cells w p.A 5 AcV.enc p.av
  casts : ∀ x ∈ p.av, Cells w x.C 1 encU x.a.casts
  rest : Cells w p.R 1 encI s.rest
  ins : Cells w p.I 1 encI s.ins
  outs : Cells w p.O 1 encI s.outs
  before : Cells w p.B 2 encP s.before
  bits : ∀ a ∈ s.acts, a.rigs < 65536 ∧ a.casts.length ≤ 9223372036854775807 ∧ ∀ c ∈ a.casts, c < 65536
  small : s.acts.length ≤ 9223372036854775807 ∧ s.rest.length ≤ 9223372036854775807 ∧ s.ins.length ≤ 9223372036854775807 ∧ s.outs.length ≤ 9223372036854775807 ∧ s.before.length ≤ 9223372036854775807
theorem ShW.ext {w w' : World} {s : Sh} {p : ShP} (h : ShW w s p) (hb : Below w.heap.size w w') : ShW w' s p :=
  ⟨h.eq, h.acts.ext hb, fun x hx => (h.casts x hx).ext hb, h.rest.ext hb, h.ins.ext hb, h.outs.ext hb, h.before.ext hb, h.bits, h.small⟩
theorem ShW.few {w : World} {s : Sh} {p : ShP} (h : ShW w s p) (hf : s.fewB = true) : ShM w s p := by
  obtain ⟨h1, h2, h3, h4, h5, h6⟩ := Sh.few_iff.1 hf
  exact ⟨h.eq, h.acts, h.casts, h.rest, h.ins, h.outs, h.before, fun a ha => ⟨(h.bits a ha).1, by have := h1 a ha; omega, (h.bits a ha).2.2⟩, by omega, by omega, by omega, by omega, by omega⟩
theorem ShW.at {w : World} {s : Sh} {p : ShP} (h : ShW w s p) {i : Nat} (hi : i < s.acts.length) :
    ∃ b off C c, p.A = some ⟨b, off, none⟩ ∧ b < w.heap.size ∧ w.cell? ⟨b, off + i * 5 + 3, none⟩ = some (.slice C (s.act i).casts.length c) := by
  have hk : i < p.av.length := by rw [← List.length_map (f := AcV.a), h.eq]; exact hi
  obtain ⟨b, off, hA, hb, c0, c1, c2, c3, c4⟩ := h.acts.at5 hk rfl
  have e : (p.av[i]).a = s.act i := by
    rw [Sh.act_eq hi]
    have := h.eq
    have h2 : (p.av.map AcV.a)[i]? = s.acts[i]? := by rw [this]
    simpa [hk, hi] using h2
  rw [e] at c3
  exact ⟨b, off, _, _, hA, hb, c3⟩
theorem below_any (m n : Nat) (w : World) (hs : m < 65536) (hn : n ≤ 1000) :
    Calls Try.prog 48 #[.int .u16 m, .int .i64 n] w fun e w' => e = .returned (.bool (fitsB m n)) ∧ w = w' := by
  have CH := Lib.hid (fun i (hi : i ≤ 1000) => has_any m i w hs hi)
  generalize hres : fitsB m n = res
  have Hf := Lib.hid (show (∃ i, i < 16 ∧ n ≤ i ∧ m.testBit i = true) → res = false from fun ⟨i, h1, h2, h3⟩ => by
    rw [← hres, Bool.eq_false_iff]
    intro h
    have := (fits_bits hs).1 h i h1 h2
    rw [h3] at this; cases this)
  have Ht := Lib.hid (show (∀ i, i < 16 → n ≤ i → m.testBit i = false) → res = true from fun h => by rw [← hres]; exact (fits_bits hs).2 h)
  clear hres
  go_enter Try.func48, Try.ntmps48
  go_wp2
  go_loopw [5] (fun t wr => ∃ i : Nat, t = .int .i64 i ∧ n ≤ i ∧ i ≤ 1000 ∧ Hid (∀ j, j < 16 → n ≤ j → j < i → m.testBit j = false) ∧ wr = w) (fun t _ => 1000 - (intOf t).toNat)
  case atStart => exact ⟨n, rfl, Nat.le_refl _, hn, Lib.hid (fun j _ h1 h2 => by omega), rfl⟩
  case round =>
    obtain ⟨i, rfl, hni, hi, Hb, rfl⟩ := hrel
    by_cases hlt : i < 16
    · have hlt' : (i : Int) < 16 := by omega
      have CI := Lib.hid (CH.out i hi)
      have hd : decide (i < 16) = true := by simp [hlt]
      cases hb : m.testBit i
      · have Hn := Lib.hid hb
        rw [hb, hd] at CI
        clear hb hd
        go_wp2_with fail
        refine CI.out.mono ?_; rintro e w1 ⟨rfl, rfl⟩
        go_wp2
        go_roundw
        case rel => exact ⟨i + 1, by go_num, by omega, by omega, Lib.hid (fun j h1 h2 h3 => by
          rcases Nat.lt_or_ge j i with h4 | h4
          · exact Hb.out j h1 h2 h4
          · have : j = i := by omega
            subst this; exact Hn.out), by first | rfl | trivial⟩
        case measure => simp [intOf]; omega
      · have Hr := Lib.hid (Hf.out ⟨i, hlt, hni, hb⟩)
        rw [hb, hd] at CI
        clear hb hd
        go_wp2_with fail
        refine CI.out.mono ?_; rintro e w1 ⟨rfl, rfl⟩
        go_wp2
        go_ret
        exact ⟨ret_congr (bool_congr Hr.out.symm), rfl⟩
    · have Hr := Lib.hid (Ht.out (fun j h1 h2 => Hb.out j h1 h2 (by omega)))
      have hlt' : ¬ (i : Int) < 16 := by omega
      go_wp2
      go_ret
      exact ⟨ret_congr (bool_congr Hr.out.symm), rfl⟩
set_option maxRecDepth 100000 in
set_option maxHeartbeats 1000000 in
theorem Few_any (s : Sh) (p : ShP) (w : World) (h : ShW w s p) : Calls Try.prog 24 #[shV s p] w fun e w' => e = .returned (.bool s.fewB) ∧ Below w.heap.size w w' := by
  obtain ⟨m1, m2, m3, m4, m5⟩ := h.small
  have hb0 := ext_alloc w (.cells (shC s p).toArray 26)
  have hS := Blk.new w 26 (shC s p)
  generalize hres : s.fewB = res
  have Hf := Lib.hid (show res = true → _ from fun hr => Sh.few_iff.1 (hres.trans hr))
  have Ht := Lib.hid (show _ → res = true from fun hr => hres.symm.trans (Sh.few_iff.2 hr))
  clear hres
  unfold shV at *
  unfold shC at *
  go_enter Try.func24, Try.ntmps24
  go_upto_region 1 with fail
  have h0 := h.ext hb0
  have Hh := Lib.hid h0
  clear h h0
  change Blk (w.alloc (.cells #[.slice p.A s.acts.length p.cA, .slice p.R s.rest.length p.cR, .slice p.I s.ins.length p.cI, .slice p.O s.outs.length p.cO, .int .i64 s.cover, .int .i64 s.dull, .slice p.B s.before.length p.cB] 26)) _ _ _ at hS
  generalize w.alloc (.cells #[.slice p.A s.acts.length p.cA, .slice p.R s.rest.length p.cR, .slice p.I s.ins.length p.cI, .slice p.O s.outs.length p.cO, .int .i64 s.cover, .int .i64 s.dull, .slice p.B s.before.length p.cB] 26) = W0 at *
  have x0 : W0.cell? ⟨w.heap.size, 0, none⟩ = _ := hS.cell (i := 0) rfl
  have x1 : W0.cell? ⟨w.heap.size, 1, none⟩ = _ := hS.cell (i := 1) rfl
  have x2 : W0.cell? ⟨w.heap.size, 2, none⟩ = _ := hS.cell (i := 2) rfl
  have x3 : W0.cell? ⟨w.heap.size, 3, none⟩ = _ := hS.cell (i := 3) rfl
  have x6 : W0.cell? ⟨w.heap.size, 6, none⟩ = _ := hS.cell (i := 6) rfl
  clear hS
  go_wp2
  go_loopw [3] (fun t wr => ∃ i : Nat, t = .int .i64 i ∧ i ≤ s.acts.length ∧ Hid (∀ a ∈ s.acts.take i, a.casts.length ≤ 6) ∧ wr = W0) (fun t _ => s.acts.length - (intOf t).toNat)
  case atStart => exact ⟨0, rfl, by omega, Lib.hid (by simp), rfl⟩
  case round =>
    obtain ⟨i, rfl, hi, Hk, rfl⟩ := hrel
    by_cases hlt : i < s.acts.length
    · have hlt' : (i : Int) < (s.acts.length : Int) := by omega
      have hi0 : (0 : Int) ≤ i := by omega
      obtain ⟨b, off, C, c, hA, hbl, c3⟩ := Hh.out.at hlt
      rw [hA] at x0
      have hmem : s.act i ∈ s.acts := by rw [Sh.act_eq hlt]; exact List.getElem_mem hlt
      have htk : s.acts.take (i + 1) = s.acts.take i ++ [s.act i] := by rw [List.take_succ_eq_append_getElem hlt, Sh.act_eq hlt]
      have Htk := Lib.hid htk
      clear htk hA
      by_cases hq : (s.act i).casts.length ≤ 6
      · have hq' : ¬ ((s.act i).casts.length : Int) > 6 := by omega
        have Hq := Lib.hid hq
        go_wp2
        go_roundw
        case rel => exact ⟨i + 1, by go_num, by omega, Lib.hid (fun a ha => by
          rw [Htk.out] at ha
          rcases List.mem_append.1 ha with ha | ha
          · exact Hk.out a ha
          · simp at ha; rw [ha]; exact Hq.out), by first | rfl | trivial⟩
        case measure => simp [intOf]; omega
      · have hq' : ((s.act i).casts.length : Int) > 6 := by omega
        have Hr := Lib.hid (show res = false by
          cases hr : res
          · rfl
          · exact absurd ((Hf.out hr).1 _ hmem) hq)
        go_wp2
        go_ret
        exact ⟨ret_congr (bool_congr Hr.out.symm), hb0⟩
    · obtain rfl : i = s.acts.length := by omega
      have hk := Hk.out
      rw [List.take_length] at hk
      have Hk2 := Lib.hid hk
      clear hk
      go_upto_region 6 with fail
      by_cases q1 : s.acts.length ≤ 12
      · by_cases q2 : s.rest.length ≤ 20
        · by_cases q3 : s.ins.length ≤ 15
          · by_cases q4 : s.outs.length ≤ 15
            · by_cases q5 : s.before.length ≤ 30
              · have Hr := Lib.hid (Ht.out ⟨Hk2.out, q1, q2, q3, q4, q5⟩)
                go_wp2
                go_ret
                exact ⟨ret_congr (bool_congr (by first | exact Hr.out.symm | (rw [Hr.out]; simp; done) | (rw [Hr.out]; simp; omega))), hb0⟩
              · have Hr := Lib.hid (show res = false by cases hr : res; rfl; exact absurd (Hf.out hr).2.2.2.2.2 q5)
                go_wp2
                go_ret
                exact ⟨ret_congr (bool_congr (by first | exact Hr.out.symm | (rw [Hr.out]; simp; done) | (rw [Hr.out]; simp; omega))), hb0⟩
            · have Hr := Lib.hid (show res = false by cases hr : res; rfl; exact absurd (Hf.out hr).2.2.2.2.1 q4)
              go_wp2
              go_ret
              exact ⟨ret_congr (bool_congr (by first | exact Hr.out.symm | (rw [Hr.out]; simp; done) | (rw [Hr.out]; simp; omega))), hb0⟩
          · have Hr := Lib.hid (show res = false by cases hr : res; rfl; exact absurd (Hf.out hr).2.2.2.1 q3)
            go_wp2
            go_ret
            exact ⟨ret_congr (bool_congr (by first | exact Hr.out.symm | (rw [Hr.out]; simp; done) | (rw [Hr.out]; simp; omega))), hb0⟩
        · have Hr := Lib.hid (show res = false by cases hr : res; rfl; exact absurd (Hf.out hr).2.2.1 q2)
          go_wp2
          go_ret
          exact ⟨ret_congr (bool_congr (by first | exact Hr.out.symm | (rw [Hr.out]; simp; done) | (rw [Hr.out]; simp; omega))), hb0⟩
      · have Hr := Lib.hid (show res = false by cases hr : res; rfl; exact absurd (Hf.out hr).2.1 q1)
        go_wp2
        go_ret
        exact ⟨ret_congr (bool_congr (by first | exact Hr.out.symm | (rw [Hr.out]; simp; done) | (rw [Hr.out]; simp; omega))), hb0⟩
end Go.Proofs.Ytcnidhcdkbfpcaa

/- Walks: Few; arguments opened to data. -/
import Derived.DeepKeys4
import Derived.Maps.Keyed
import Derived.Laws.StructEq
import Derived.Deep.DeepCutAuto
import Derived.Carry
import Derived.Sort.CutIn
import Derived.WalkLawsBesides
import Derived.Maps.RangeWalk
import Derived.WalkKit
import Derived.ProofKit
import Derived.OpenShut
import Derived.ChangeOld
import Derived.Below
import Derived.Lib.SmallJoins
import Derived.Deep.Slices
import Derived.Deep.Fields
import Derived.ChangeSame
import Derived.Test.YtilkoooahoecfaaGreatPgH
import Derived.Test.YtilkoooahoecfaaGreatRows
/- Walks: is a show small? the reference's below. -/
namespace Go.Pg
/-- has a show few acts, casts, persons, kinds, pairs? -/
def Sh.fewB (s : Sh) : Bool := s.acts.all (fun a => decide (a.casts.length ≤ 6)) && (decide (s.acts.length ≤ 12) && decide (s.rest.length ≤ 20) && decide (s.ins.length ≤ 15) && decide (s.outs.length ≤ 15) && decide (s.before.length ≤ 30))
theorem Sh.few_iff {s : Sh} : s.fewB = true ↔ (∀ a ∈ s.acts, a.casts.length ≤ 6) ∧ s.acts.length ≤ 12 ∧ s.rest.length ≤ 20 ∧ s.ins.length ≤ 15 ∧ s.outs.length ≤ 15 ∧ s.before.length ≤ 30 := by
  simp only [fewB, Bool.and_eq_true, List.all_eq_true, decide_eq_true_eq]
  constructor
  · rintro ⟨h1, ⟨⟨⟨h2, h3⟩, h4⟩, h5⟩, h6⟩; exact ⟨h1, h2, h3, h4, h5, h6⟩
  · rintro ⟨h1, h2, h3, h4, h5, h6⟩; exact ⟨h1, ⟨⟨⟨h2, h3⟩, h4⟩, h5⟩, h6⟩
end Go.Pg
namespace Go.Proofs.YtilkoooahoecfaaGreat
open Go.RowKit Go.Bs Go.Pg Go.Pl Go.Sort
/-- a show that came in: no bound but what its types tell -/
structure ShW (w : World) (s : Sh) (p : ShP) : Prop where
  eq : p.av.map AcV.a = s.acts
  acts : Cells w p.A 5 AcV.enc p.av
  casts : ∀ x ∈ p.av, Cells w x.C 1 encU x.a.casts
  rest : Cells w p.R 1 encI s.rest
  ins : Cells w p.I 1 encI s.ins
  outs : Cells w p.O 1 encI s.outs
  before : Cells w p.B 2 encP s.before
  bits : ∀ a ∈ s.acts, a.rigs < 65536 ∧ a.casts.length ≤ 9223372036854775807 ∧ ∀ c ∈ a.casts, c < 65536
  small : s.acts.length ≤ 9223372036854775807 ∧ s.rest.length ≤ 9223372036854775807 ∧ s.ins.length ≤ 9223372036854775807 ∧ s.outs.length ≤ 9223372036854775807 ∧ s.before.length ≤ 9223372036854775807
theorem ShW.ext {w w' : World} {s : Sh} {p : ShP} (h : ShW w s p) (hb : Below w.heap.size w w') : ShW w' s p :=
  ⟨h.eq, h.acts.ext hb, fun x hx => (h.casts x hx).ext hb, h.rest.ext hb, h.ins.ext hb, h.outs.ext hb, h.before.ext hb, h.bits, h.small⟩
theorem ShW.few {w : World} {s : Sh} {p : ShP} (h : ShW w s p) (hf : s.fewB = true) : ShM w s p := by
  obtain ⟨h1, h2, h3, h4, h5, h6⟩ := Sh.few_iff.1 hf
  exact ⟨h.eq, h.acts, h.casts, h.rest, h.ins, h.outs, h.before, fun a ha => ⟨(h.bits a ha).1, by have := h1 a ha; omega, (h.bits a ha).2.2⟩, by omega, by omega, by omega, by omega, by omega⟩
theorem ShW.at {w : World} {s : Sh} {p : ShP} (h : ShW w s p) {i : Nat} (hi : i < s.acts.length) :
    ∃ b off C c, p.A = some ⟨b, off, none⟩ ∧ b < w.heap.size ∧ w.cell? ⟨b, off + i * 5 + 3, none⟩ = some (.slice C (s.act i).casts.length c) := by
  have hk : i < p.av.length := by rw [← List.length_map (f := AcV.a), h.eq]; exact hi
  obtain ⟨b, off, hA, hb, c0, c1, c2, c3, c4⟩ := h.acts.at5 hk rfl
  have e : (p.av[i]).a = s.act i := by
    rw [Sh.act_eq hi]
    have := h.eq
    have h2 : (p.av.map AcV.a)[i]? = s.acts[i]? := by rw [this]
    simpa [hk, hi] using h2
  rw [e] at c3
  exact ⟨b, off, _, _, hA, hb, c3⟩
theorem below_any (m n : Nat) (w : World) (hs : m < 65536) (hn : n ≤ 1000) :
    Calls Tryz.prog 12 #[.int .u16 m, .int .i64 n] w fun e w' => e = .returned (.bool (fitsB m n)) ∧ w = w' := by
  have CH := Lib.hid (fun i (hi : i ≤ 1000) => has_any m i w hs hi)
  generalize hres : fitsB m n = res
  have Hf := Lib.hid (show (∃ i, i < 16 ∧ n ≤ i ∧ m.testBit i = true) → res = false from fun ⟨i, h1, h2, h3⟩ => by
    rw [← hres, Bool.eq_false_iff]
    intro h
    have := (fits_bits hs).1 h i h1 h2
    rw [h3] at this; cases this)
  have Ht := Lib.hid (show (∀ i, i < 16 → n ≤ i → m.testBit i = false) → res = true from fun h => by rw [← hres]; exact (fits_bits hs).2 h)
  clear hres
  go_enter Tryz.func12, Tryz.ntmps12
  go_wp2
  go_loopw [5] (fun t wr => ∃ i : Nat, t = .int .i64 i ∧ n ≤ i ∧ i ≤ 1000 ∧ Hid (∀ j, j < 16 → n ≤ j → j < i → m.testBit j = false) ∧ wr = w) (fun t _ => 1000 - (intOf t).toNat)
  case atStart => exact ⟨n, rfl, Nat.le_refl _, hn, Lib.hid (fun j _ h1 h2 => by omega), rfl⟩
  case round =>
    obtain ⟨i, rfl, hni, hi, Hb, rfl⟩ := hrel
    by_cases hlt : i < 16
    · have hlt' : (i : Int) < 16 := by omega
      have CI := Lib.hid (CH.out i hi)
      have hd : decide (i < 16) = true := by simp [hlt]
      cases hb : m.testBit i
      · have Hn := Lib.hid hb
        rw [hb, hd] at CI
        clear hb hd
        go_wp2_with fail
        refine CI.out.mono ?_; rintro e w1 ⟨rfl, rfl⟩
        go_wp2
        go_roundw
        case rel => exact ⟨i + 1, by go_num, by omega, by omega, Lib.hid (fun j h1 h2 h3 => by
          rcases Nat.lt_or_ge j i with h4 | h4
          · exact Hb.out j h1 h2 h4
          · have : j = i := by omega
            subst this; exact Hn.out), by first | rfl | trivial⟩
        case measure => simp [intOf]; omega
      · have Hr := Lib.hid (Hf.out ⟨i, hlt, hni, hb⟩)
        rw [hb, hd] at CI
        clear hb hd
        go_wp2_with fail
        refine CI.out.mono ?_; rintro e w1 ⟨rfl, rfl⟩
        go_wp2
        go_ret
        exact ⟨ret_congr (bool_congr Hr.out.symm), rfl⟩
    · have Hr := Lib.hid (Ht.out (fun j h1 h2 => Hb.out j h1 h2 (by omega)))
      have hlt' : ¬ (i : Int) < 16 := by omega
      go_wp2
      go_ret
      exact ⟨ret_congr (bool_congr Hr.out.symm), rfl⟩
set_option maxRecDepth 100000 in
set_option maxHeartbeats 1000000 in
theorem Few_any (s : Sh) (p : ShP) (w : World) (h : ShW w s p) : Calls Tryz.prog 4 #[shV s p] w fun e w' => e = .returned (.bool s.fewB) ∧ Below w.heap.size w w' := by
  obtain ⟨m1, m2, m3, m4, m5⟩ := h.small
  have hb0 := ext_alloc w (.cells (shC s p).toArray 26)
  have hS := Blk.new w 26 (shC s p)
  generalize hres : s.fewB = res
  have Hf := Lib.hid (show res = true → _ from fun hr => Sh.few_iff.1 (hres.trans hr))
  have Ht := Lib.hid (show _ → res = true from fun hr => hres.symm.trans (Sh.few_iff.2 hr))
  clear hres
  unfold shV at *
  unfold shC at *
  go_enter Tryz.func4, Tryz.ntmps4
  go_upto_region 1 with fail
  have h0 := h.ext hb0
  have Hh := Lib.hid h0
  clear h h0
  change Blk (w.alloc (.cells #[.slice p.A s.acts.length p.cA, .slice p.R s.rest.length p.cR, .slice p.I s.ins.length p.cI, .slice p.O s.outs.length p.cO, .int .i64 s.cover, .int .i64 s.dull, .slice p.B s.before.length p.cB] 26)) _ _ _ at hS
  generalize w.alloc (.cells #[.slice p.A s.acts.length p.cA, .slice p.R s.rest.length p.cR, .slice p.I s.ins.length p.cI, .slice p.O s.outs.length p.cO, .int .i64 s.cover, .int .i64 s.dull, .slice p.B s.before.length p.cB] 26) = W0 at *
  have x0 : W0.cell? ⟨w.heap.size, 0, none⟩ = _ := hS.cell (i := 0) rfl
  have x1 : W0.cell? ⟨w.heap.size, 1, none⟩ = _ := hS.cell (i := 1) rfl
  have x2 : W0.cell? ⟨w.heap.size, 2, none⟩ = _ := hS.cell (i := 2) rfl
  have x3 : W0.cell? ⟨w.heap.size, 3, none⟩ = _ := hS.cell (i := 3) rfl
  have x6 : W0.cell? ⟨w.heap.size, 6, none⟩ = _ := hS.cell (i := 6) rfl
  clear hS
  go_wp2
  go_loopw [3] (fun t wr => ∃ i : Nat, t = .int .i64 i ∧ i ≤ s.acts.length ∧ Hid (∀ a ∈ s.acts.take i, a.casts.length ≤ 6) ∧ wr = W0) (fun t _ => s.acts.length - (intOf t).toNat)
  case atStart => exact ⟨0, rfl, by omega, Lib.hid (by simp), rfl⟩
  case round =>
    obtain ⟨i, rfl, hi, Hk, rfl⟩ := hrel
    by_cases hlt : i < s.acts.length
    · have hlt' : (i : Int) < (s.acts.length : Int) := by omega
      have hi0 : (0 : Int) ≤ i := by omega
      obtain ⟨b, off, C, c, hA, hbl, c3⟩ := Hh.out.at hlt
      rw [hA] at x0
      have hmem : s.act i ∈ s.acts := by rw [Sh.act_eq hlt]; exact List.getElem_mem hlt
      have htk : s.acts.take (i + 1) = s.acts.take i ++ [s.act i] := by rw [List.take_succ_eq_append_getElem hlt, Sh.act_eq hlt]
      have Htk := Lib.hid htk
      clear htk hA
      by_cases hq : (s.act i).casts.length ≤ 6
      · have hq' : ¬ ((s.act i).casts.length : Int) > 6 := by omega
        have Hq := Lib.hid hq
        go_wp2
        go_roundw
        case rel => exact ⟨i + 1, by go_num, by omega, Lib.hid (fun a ha => by
          rw [Htk.out] at ha
          rcases List.mem_append.1 ha with ha | ha
          · exact Hk.out a ha
          · simp at ha; rw [ha]; exact Hq.out), by first | rfl | trivial⟩
        case measure => simp [intOf]; omega
      · have hq' : ((s.act i).casts.length : Int) > 6 := by omega
        have Hr := Lib.hid (show res = false by
          cases hr : res
          · rfl
          · exact absurd ((Hf.out hr).1 _ hmem) hq)
        go_wp2
        go_ret
        exact ⟨ret_congr (bool_congr Hr.out.symm), hb0⟩
    · obtain rfl : i = s.acts.length := by omega
      have hk := Hk.out
      rw [List.take_length] at hk
      have Hk2 := Lib.hid hk
      clear hk
      go_upto_region 6 with fail
      by_cases q1 : s.acts.length ≤ 12
      · by_cases q2 : s.rest.length ≤ 20
        · by_cases q3 : s.ins.length ≤ 15
          · by_cases q4 : s.outs.length ≤ 15
            · by_cases q5 : s.before.length ≤ 30
              · have Hr := Lib.hid (Ht.out ⟨Hk2.out, q1, q2, q3, q4, q5⟩)
                go_wp2
                go_ret
                exact ⟨ret_congr (bool_congr (by first | exact Hr.out.symm | (rw [Hr.out]; simp; done) | (rw [Hr.out]; simp; omega))), hb0⟩
              · have Hr := Lib.hid (show res = false by cases hr : res; rfl; exact absurd (Hf.out hr).2.2.2.2.2 q5)
                go_wp2
                go_ret
                exact ⟨ret_congr (bool_congr (by first | exact Hr.out.symm | (rw [Hr.out]; simp; done) | (rw [Hr.out]; simp; omega))), hb0⟩
            · have Hr := Lib.hid (show res = false by cases hr : res; rfl; exact absurd (Hf.out hr).2.2.2.2.1 q4)
              go_wp2
              go_ret
              exact ⟨ret_congr (bool_congr (by first | exact Hr.out.symm | (rw [Hr.out]; simp; done) | (rw [Hr.out]; simp; omega))), hb0⟩
          · have Hr := Lib.hid (show res = false by cases hr : res; rfl; exact absurd (Hf.out hr).2.2.2.1 q3)
            go_wp2
            go_ret
            exact ⟨ret_congr (bool_congr (by first | exact Hr.out.symm | (rw [Hr.out]; simp; done) | (rw [Hr.out]; simp; omega))), hb0⟩
        · have Hr := Lib.hid (show res = false by cases hr : res; rfl; exact absurd (Hf.out hr).2.2.1 q2)
          go_wp2
          go_ret
          exact ⟨ret_congr (bool_congr (by first | exact Hr.out.symm | (rw [Hr.out]; simp; done) | (rw [Hr.out]; simp; omega))), hb0⟩
      · have Hr := Lib.hid (show res = false by cases hr : res; rfl; exact absurd (Hf.out hr).2.1 q1)
        go_wp2
        go_ret
        exact ⟨ret_congr (bool_congr (by first | exact Hr.out.symm | (rw [Hr.out]; simp; done) | (rw [Hr.out]; simp; omega))), hb0⟩
end Go.Proofs.YtilkoooahoecfaaGreat

/- Arguments opened to data: shows, rows of ints. -/
namespace Go.Proofs.YtilkoooahoecfaaGreat
open Go.ChangeShapes Go.WideShapes Go.ChangeAt Go.RowKit Go.Joins Go.Bs Go.Deep Go.Pg
theorem ownK : ownKnob Tryz.prog.godebug = none := by kernel_rfl
theorem laidK : laidOutB Tryz.prog = true := by kernel_rfl
set_option maxRecDepth 100000 in
theorem ints_in {H : Type} {enc : TypeId × Value → H} {w : World} {base fuel : Nat} {spare : Nat → Bool} {held : Bool} {v : Value} {x : DataW H × List MemPlace} (h : DataW.trod enc Tryz.prog w base spare held fuel 23 [v] = some x) :
    ∃ A n c l, v = .slice A n c ∧ l.length = n ∧ n ≤ c ∧ c ≤ maxLen ∧ Cells w A 1 encI l := by
  rcases open_ints Tryz.underlying23 Tryz.underlying3 (by kernel_rfl) h with ⟨hcs, _⟩ | ⟨a, l, c, zs, hcs, _, hl, hm, hz, _, hcell, hwz⟩
  · simp only [List.cons.injEq, and_true] at hcs
    exact ⟨none, 0, 0, [], hcs, rfl, Nat.le_refl _, by unfold maxLen; omega, Cells.nil⟩
  · simp only [List.cons.injEq, and_true] at hcs
    have hlz : l ≤ zs.length := by rw [hz]; split <;> omega
    refine ⟨some a, l, c, zs.take l, hcs, by simp; omega, hl, hm, fun i y hi => ?_⟩
    have hil : i < l := by
      have := (List.getElem?_eq_some_iff.1 hi).1
      simp at this; omega
    have hc := hcell i (by omega)
    obtain ⟨b, off, spot⟩ := a
    have hspot : spot = none := by
      simpa [Addr.add] using World.cell?_spot (hcell 0 (by omega))
    subst hspot
    refine ⟨b, off, rfl, fun j u hj => ?_⟩
    rcases j with _ | j
    · simp only [encI, List.getElem?_cons_zero, Option.some.injEq] at hj
      subst hj
      have hy : zs.getD i 0 = y := by
        rw [List.getElem?_take] at hi
        rw [if_pos hil] at hi
        simp [hi]
      rw [hy] at hc
      have h2 : (⟨b, off, none⟩ : Addr).add i = ⟨b, off + i, none⟩ := by
        unfold Addr.add
        split
        · rename_i h0; subst h0; rfl
        · rfl
      rw [h2] at hc
      simpa using hc
    · simp [encI] at hj
/-- A slice that came in, whose elements' cells are known by the type. -/
theorem rows_in {H α : Type} [Inhabited α] {enc : TypeId × Value → H} {w : World} {base fuel sz : Nat} {spare : Nat → Bool} {held : Bool} {v : Value} {x : DataW H × List MemPlace} {t e : TypeId} (ht : Tryz.prog.underlying t = some (.slice e)) (hC : Tryz.prog.cellsOf e = sz) (hsz : 0 < sz) (ec : α → List Value)
    (hin : ∀ n cs y, DataW.trod enc Tryz.prog w base spare held n e cs = some y → ∃ x : α, cs = ec x)
    (h : DataW.trod enc Tryz.prog w base spare held fuel t [v] = some x) :
    ∃ A n c l, v = .slice A n c ∧ l.length = n ∧ n ≤ c ∧ c ≤ maxLen ∧ Cells w A sz ec l := by
  rcases open_slice ht h with ⟨hcs, _⟩ | ⟨a, len, cap, m, n, D, Pl, hcs, _, hl, hm, hmm, _, hi⟩
  · simp only [List.cons.injEq, and_true] at hcs
    exact ⟨none, 0, 0, [], hcs, rfl, Nat.le_refl _, by unfold maxLen; omega, Cells.nil⟩
  · simp only [List.cons.injEq, and_true] at hcs
    have hlm : len ≤ m := by rw [hmm]; split <;> omega
    rw [hC] at hi
    have key : ∀ i, i < len → ∃ x : α, w.cells? base (a.add (i * sz)) sz = some (ec x) := fun i h' => by
      obtain ⟨cs', h1, h2⟩ := hi i (by omega)
      obtain ⟨x, rfl⟩ := hin _ _ _ h2
      exact ⟨x, h1⟩
    obtain ⟨f, hf⟩ : ∃ f : Nat → α, ∀ i, i < len → w.cells? base (a.add (i * sz)) sz = some (ec (f i)) :=
      ⟨fun i => if h' : i < len then Classical.choose (key i h') else default, fun i h' => by simp only [dif_pos h']; exact Classical.choose_spec (key i h')⟩
    refine ⟨some a, len, cap, (List.range len).map f, hcs, by simp, hl, hm, fun i y hy => ?_⟩
    have hil : i < len := by
      have := (List.getElem?_eq_some_iff.1 hy).1
      simpa using this
    have hy2 : y = f i := by simpa [hil] using hy.symm
    subst hy2
    obtain ⟨_, hcl, hat⟩ := World.cells?_some (hf i hil)
    obtain ⟨b, off, spot⟩ := a
    obtain ⟨_, hcl0, hat0⟩ := World.cells?_some (hf 0 (by omega))
    have hz := hat0 0 hsz
    rw [List.getElem?_eq_getElem (show 0 < (ec (f 0)).length by omega)] at hz
    have hspot : spot = none := by
      simpa [Addr.add] using World.cell?_spot hz
    subst hspot
    refine ⟨b, off, rfl, fun j u hj => ?_⟩
    have hjl : j < sz := by
      have := (List.getElem?_eq_some_iff.1 hj).1
      omega
    have h1 := hat j hjl
    rw [hj, add_add] at h1
    have h2 : (⟨b, off, none⟩ : Addr).add (i * sz + j) = ⟨b, off + (i * sz + j), none⟩ := by
      unfold Addr.add
      split
      · rename_i h0; rw [h0]; rfl
      · rfl
    rw [h2] at h1
    exact h1

section
variable {H : Type} {enc : TypeId × Value → H} {w : World} {base : Nat} {spare : Nat → Bool} {held : Bool}
theorem int1_in {t : TypeId} (ht : Tryz.prog.underlying t = some (.int .i64)) {n : Nat} {cs : List Value} {y : DataW H × List MemPlace} (h : DataW.trod enc Tryz.prog w base spare held n t cs = some y) : ∃ k, cs = [.int .i64 k] := by
  obtain ⟨k, h, _⟩ := DataW.trod_int ht h
  exact ⟨k, h⟩
theorem u16_in {n : Nat} {cs : List Value} {y : DataW H × List MemPlace} (h : DataW.trod enc Tryz.prog w base spare held n 27 cs = some y) : ∃ k : {k : Nat // k < 65536}, cs = encU k.1 := by
  obtain ⟨k, h, -, hwf⟩ := DataW.trod_int Tryz.underlying27 h
  simp only [Lit.wf, Bool.and_eq_true, decide_eq_true_eq] at hwf
  have h1 : IntKind.u16.min = 0 := rfl
  have h2 : IntKind.u16.max = 65535 := rfl
  rw [h1, h2] at hwf
  refine ⟨⟨k.toNat, by omega⟩, ?_⟩
  rw [h]
  unfold encU
  simp only [List.cons.injEq, and_true]
  congr 2
  omega
theorem pair_in {n : Nat} {cs : List Value} {y : DataW H × List MemPlace} (h : DataW.trod enc Tryz.prog w base spare held n 52 cs = some y) : ∃ k : Int × Int, cs = encP k := by
  obtain ⟨xs, m, -, -, hl, hxl, hg⟩ := DataW.trod_array Tryz.underlying52 h
  have h3 : Tryz.prog.cellsOf 3 = 1 := by kernel_rfl
  have hl2 : cs.length = 2 := hl.trans (by kernel_rfl)
  rw [h3] at hg
  match cs, hl2 with
  | [c0, c1], _ =>
    match xs, hxl with
    | [y0, y1], _ =>
      have a0 : DataW.trod enc Tryz.prog w base spare held m 3 [c0] = some y0 := hg 0 (by decide)
      have a1 : DataW.trod enc Tryz.prog w base spare held m 3 [c1] = some y1 := hg 1 (by decide)
      obtain ⟨k0, e0⟩ := int1_in Tryz.underlying3 a0
      obtain ⟨k1, e1⟩ := int1_in Tryz.underlying3 a1
      simp at e0 e1
      subst e0
      subst e1
      exact ⟨(k0, k1), rfl⟩
/-- an act that came in -/
def ActIn (w : World) (x : AcV) : Prop := Cells w x.C 1 encU x.a.casts ∧ x.a.rigs < 65536 ∧ x.a.casts.length ≤ 9223372036854775807 ∧ ∀ c ∈ x.a.casts, c < 65536
set_option maxRecDepth 100000 in
theorem act_in {n : Nat} {cs : List Value} {y : DataW H × List MemPlace} (h : DataW.trod enc Tryz.prog w base spare held n 40 cs = some y) : ∃ x : {x : AcV // ActIn w x}, cs = AcV.enc x.1 := by
  obtain ⟨xs, m, _, _, hlen, hxl, hg⟩ := DataW.trod_struct Tryz.underlying40 h
  have hlen2 : cs.length = 5 := hlen.trans (by kernel_rfl)
  have h3 : Tryz.prog.cellsOf 3 = 1 := by kernel_rfl
  have h4 : Tryz.prog.cellsOf 4 = 1 := by kernel_rfl
  have h47 : Tryz.prog.cellsOf 27 = 1 := by kernel_rfl
  have h48 : Tryz.prog.cellsOf 38 = 1 := by kernel_rfl
  match cs, hlen2 with
  | [c0, c1, c2, c3, c4], _ =>
    match xs, hxl with
    | [y0, y1, y2, y3, y4], _ =>
      have a0 : DataW.trod enc Tryz.prog w base spare held m 3 (([c0, c1, c2, c3, c4].drop 0).take (Tryz.prog.cellsOf 3)) = some y0 := hg 0 _ rfl
      have a1 : DataW.trod enc Tryz.prog w base spare held m 3 (([c0, c1, c2, c3, c4].drop 1).take (Tryz.prog.cellsOf 3)) = some y1 := hg 1 _ rfl
      have a2 : DataW.trod enc Tryz.prog w base spare held m 27 (([c0, c1, c2, c3, c4].drop 2).take (Tryz.prog.cellsOf 27)) = some y2 := hg 2 _ rfl
      have a3 : DataW.trod enc Tryz.prog w base spare held m 38 (([c0, c1, c2, c3, c4].drop 3).take (Tryz.prog.cellsOf 38)) = some y3 := hg 3 _ rfl
      have a4 : DataW.trod enc Tryz.prog w base spare held m 4 (([c0, c1, c2, c3, c4].drop 4).take (Tryz.prog.cellsOf 4)) = some y4 := hg 4 _ rfl
      rw [h3] at a0 a1
      rw [h47] at a2
      rw [h48] at a3
      rw [h4] at a4
      have a0 : DataW.trod enc Tryz.prog w base spare held m 3 [c0] = some y0 := a0
      have a1 : DataW.trod enc Tryz.prog w base spare held m 3 [c1] = some y1 := a1
      have a2 : DataW.trod enc Tryz.prog w base spare held m 27 [c2] = some y2 := a2
      have a3 : DataW.trod enc Tryz.prog w base spare held m 38 [c3] = some y3 := a3
      have a4 : DataW.trod enc Tryz.prog w base spare held m 4 [c4] = some y4 := a4
      obtain ⟨k0, e0⟩ := int1_in Tryz.underlying3 a0
      obtain ⟨k1, e1⟩ := int1_in Tryz.underlying3 a1
      obtain ⟨k2, e2⟩ := u16_in a2
      obtain ⟨k4, e4, _⟩ := DataW.trod_bool Tryz.underlying4 a4
      haveI : Inhabited {k : Nat // k < 65536} := ⟨⟨0, by decide⟩⟩
      obtain ⟨A, n3, c, l, rfl, hl, hlc, hcm, hc⟩ := rows_in (sz := 1) Tryz.underlying38 (by kernel_rfl) (by decide) (fun x : {k : Nat // k < 65536} => encU x.1) (fun _ _ _ h => u16_in h) a3
      unfold encU at e2
      simp at e0 e1 e2 e4
      subst e0 e1 e2 e4
      unfold maxLen at hcm
      refine ⟨⟨⟨⟨k0, k1, k2.1, l.map (·.1), k4⟩, A, c⟩, fun i x hx => ?_, k2.2, by simp; omega, fun x hx => ?_⟩, ?_⟩
      · rw [List.getElem?_map] at hx
        obtain ⟨z, hz, rfl⟩ := Option.map_eq_some_iff.1 hx
        exact hc i z hz
      · obtain ⟨z, _, rfl⟩ := List.mem_map.1 hx
        exact z.2
      · subst hl
        simp [AcV.enc]
end
section
variable {H : Type} {enc : TypeId × Value → H} {w : World} {base : Nat} {spare : Nat → Bool} {held : Bool} {b0 : Nat} {v : Value} {d : DataW H} {p : List MemPlace}
set_option maxRecDepth 100000 in
theorem ints_arg (hv : Value.okWide Tryz.prog w .any b0 23 v) (h : DataW.Trod enc Tryz.prog w base spare held 23 v d p) :
    ∃ A n c l, v = .slice A n c ∧ l.length = n ∧ n ≤ c ∧ n ≤ 9223372036854775807 ∧ Cells w A 1 encI l := by
  obtain ⟨A, n, c, rfl⟩ := okWide_slice Tryz.underlying23 hv
  obtain ⟨fuel, hf⟩ := h
  obtain ⟨A', n', c', l, e, hl, hlc, hcm, hc⟩ := ints_in hf
  cases e
  exact ⟨A, n, c, l, rfl, hl, hlc, by unfold maxLen at hcm; omega, hc⟩
set_option maxRecDepth 100000 in
theorem u8_arg (hv : Value.okWide Tryz.prog w .any b0 5 v) (h : DataW.Trod enc Tryz.prog w base spare held 5 v d p) : ∃ x : Int, v = .int .u8 x ∧ 0 ≤ x ∧ x ≤ 255 := by
  obtain ⟨n, rfl⟩ := okWide_int Tryz.underlying5 hv
  obtain ⟨fuel, hf⟩ := h
  obtain ⟨n', e, -, hwf⟩ := DataW.trod_int Tryz.underlying5 hf
  simp [Value.cells] at e
  subst e
  simp only [Lit.wf, Bool.and_eq_true, decide_eq_true_eq] at hwf
  have h1 : IntKind.u8.min = 0 := rfl
  have h2 : IntKind.u8.max = 255 := rfl
  rw [h1, h2] at hwf
  exact ⟨n, rfl, hwf⟩
set_option maxRecDepth 100000 in
theorem show_in (hv : Value.okWide Tryz.prog w .any b0 26 v) (h : DataW.Trod enc Tryz.prog w base spare held 26 v d p) : ∃ (s : Sh) (q : ShP), v = shV s q ∧ ShW w s q := by
  obtain ⟨cs, rfl, hsz⟩ := okWide_struct Tryz.underlying26 hv
  obtain ⟨fuel, hf⟩ := h
  obtain ⟨xs, m, _, _, hlen, hxl, hg⟩ := DataW.trod_struct Tryz.underlying26 hf
  have hlen2 : cs.toList.length = 7 := by rw [Array.length_toList]; exact hsz.trans (by kernel_rfl)
  have h3 : Tryz.prog.cellsOf 3 = 1 := by kernel_rfl
  have h22 : Tryz.prog.cellsOf 22 = 1 := by kernel_rfl
  have h23 : Tryz.prog.cellsOf 23 = 1 := by kernel_rfl
  have h24 : Tryz.prog.cellsOf 24 = 1 := by kernel_rfl
  obtain ⟨cl⟩ := cs
  simp only [Value.cells] at hg
  match cl, hlen2 with
  | [c0, c1, c2, c3, c4, c5, c6], _ =>
    match xs, hxl with
    | [y0, y1, y2, y3, y4, y5, y6], _ =>
      have a0 : DataW.trod enc Tryz.prog w base spare held m 22 (([c0, c1, c2, c3, c4, c5, c6].drop 0).take (Tryz.prog.cellsOf 22)) = some y0 := hg 0 _ rfl
      rw [h22] at a0
      have a0 : DataW.trod enc Tryz.prog w base spare held m 22 [c0] = some y0 := a0
      have a1 : DataW.trod enc Tryz.prog w base spare held m 23 (([c0, c1, c2, c3, c4, c5, c6].drop 1).take (Tryz.prog.cellsOf 23)) = some y1 := hg 1 _ rfl
      rw [h23] at a1
      have a1 : DataW.trod enc Tryz.prog w base spare held m 23 [c1] = some y1 := a1
      have a2 : DataW.trod enc Tryz.prog w base spare held m 23 (([c0, c1, c2, c3, c4, c5, c6].drop 2).take (Tryz.prog.cellsOf 23)) = some y2 := hg 2 _ rfl
      rw [h23] at a2
      have a2 : DataW.trod enc Tryz.prog w base spare held m 23 [c2] = some y2 := a2
      have a3 : DataW.trod enc Tryz.prog w base spare held m 23 (([c0, c1, c2, c3, c4, c5, c6].drop 3).take (Tryz.prog.cellsOf 23)) = some y3 := hg 3 _ rfl
      rw [h23] at a3
      have a3 : DataW.trod enc Tryz.prog w base spare held m 23 [c3] = some y3 := a3
      have a4 : DataW.trod enc Tryz.prog w base spare held m 3 (([c0, c1, c2, c3, c4, c5, c6].drop 4).take (Tryz.prog.cellsOf 3)) = some y4 := hg 4 _ rfl
      rw [h3] at a4
      have a4 : DataW.trod enc Tryz.prog w base spare held m 3 [c4] = some y4 := a4
      have a5 : DataW.trod enc Tryz.prog w base spare held m 3 (([c0, c1, c2, c3, c4, c5, c6].drop 5).take (Tryz.prog.cellsOf 3)) = some y5 := hg 5 _ rfl
      rw [h3] at a5
      have a5 : DataW.trod enc Tryz.prog w base spare held m 3 [c5] = some y5 := a5
      have a6 : DataW.trod enc Tryz.prog w base spare held m 24 (([c0, c1, c2, c3, c4, c5, c6].drop 6).take (Tryz.prog.cellsOf 24)) = some y6 := hg 6 _ rfl
      rw [h24] at a6
      have a6 : DataW.trod enc Tryz.prog w base spare held m 24 [c6] = some y6 := a6
      obtain ⟨k4, e4⟩ := int1_in Tryz.underlying3 a4
      obtain ⟨k5, e5⟩ := int1_in Tryz.underlying3 a5
      simp at e4 e5
      subst e4
      subst e5
      haveI : Inhabited {x : AcV // ActIn w x} := ⟨⟨⟨⟨0, 0, 0, [], false⟩, none, 0⟩, Cells.nil, by decide, by simp, by simp⟩⟩
      obtain ⟨A, n, c, l, rfl, hl, hlc, hm, hc⟩ := rows_in (sz := 5) Tryz.underlying22 (by kernel_rfl) (by decide) (fun x : {x : AcV // ActIn w x} => AcV.enc x.1) (fun _ _ _ h => act_in h) a0
      obtain ⟨A1, n1, d1, l1, rfl, hl1, hq1, hm1, hc1⟩ := ints_in a1
      obtain ⟨A2, n2, d2, l2, rfl, hl2, hq2, hm2, hc2⟩ := ints_in a2
      obtain ⟨A3, n3, d3, l3, rfl, hl3, hq3, hm3, hc3⟩ := ints_in a3
      obtain ⟨A6, n6, d6, l6, rfl, hl6, hq6, hm6, hc6⟩ := rows_in (sz := 2) Tryz.underlying24 (by kernel_rfl) (by decide) encP (fun _ _ _ h => pair_in h) a6
      unfold maxLen at hm hm1 hm2 hm3 hm6
      refine ⟨⟨l.map (fun x => x.1.a), l1, l2, l3, k4, k5, l6⟩, ⟨l.map (·.1), A, A1, A2, A3, A6, c, d1, d2, d3, d6⟩, ?_, ?_⟩
      · subst hl hl1 hl2 hl3 hl6
        simp [shV]
      · refine ⟨by simp, fun i x hx => ?_, fun x hx => ?_, hc1, hc2, hc3, hc6, fun a ha => ?_, ⟨by simp; omega, by simp; omega, by simp; omega, by simp; omega, by simp; omega⟩⟩
        · rw [List.getElem?_map] at hx
          obtain ⟨z, hz, rfl⟩ := Option.map_eq_some_iff.1 hx
          exact hc i z hz
        · obtain ⟨z, _, rfl⟩ := List.mem_map.1 hx
          exact z.2.1
        · obtain ⟨z, _, rfl⟩ := List.mem_map.1 ha
          exact z.2.2
end
end Go.Proofs.YtilkoooahoecfaaGreat

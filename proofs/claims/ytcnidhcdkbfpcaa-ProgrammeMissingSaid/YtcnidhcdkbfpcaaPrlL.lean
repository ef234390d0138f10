/- A show of the call's own, changed; the law ProgrammeEasier: its walk. -/
import Derived.Test.YtcnidhcdkbfpcaaPrlK
import Derived.Test.YtcnidhcdkbfpcaaPgJ
namespace Go.Bs
open Go.RowKit Go.Pl
theorem flatMap_set {α : Type} {enc : α → List Value} {sz : Nat} (hen : ∀ x, (enc x).length = sz) : ∀ (l : List α) (i j : Nat) (x : α) (u : Value) (hi : i < l.length), j < sz → enc x = (enc l[i]).set j u → (l.set i x).flatMap enc = (l.flatMap enc).set (i * sz + j) u
  | [], i, j, x, u, hi, _, _ => by simp at hi
  | y :: l, 0, j, x, u, _, hj, he => by
    simp only [List.set_cons_zero, List.flatMap_cons, List.getElem_cons_zero] at he ⊢
    rw [he, Nat.zero_mul, Nat.zero_add, List.set_append_left _ _ (by rw [hen]; exact hj)]
  | y :: l, i + 1, j, x, u, hi, hj, he => by
    simp only [List.set_cons_succ, List.flatMap_cons, List.getElem_cons_succ] at he ⊢
    rw [flatMap_set hen l i j x u (by simpa using hi) hj he, List.set_append_right _ _ (by rw [hen, Nat.add_mul]; omega), hen]
    congr 2
    rw [Nat.add_mul]; omega
/-- a store into a row of the call's own -/
theorem OwnL.setAt {α : Type} {w : World} {base : Nat} {e : TypeId} {sz : Nat} {enc : α → List Value} {g n cap : Nat} {l : List α} (hen : ∀ x, (enc x).length = sz) (h : OwnL w base e sz enc (.slice (some ⟨g, 0, none⟩) n cap) l) {i j : Nat} (hi : i < l.length) (hj : j < sz) (x : α) (u : Value) (he : enc x = (enc l[i]).set j u) :
    OwnL (w.setCell ⟨g, i * sz + j, none⟩ u) base e sz enc (.slice (some ⟨g, 0, none⟩) n cap) (l.set i x) := by
  obtain ⟨h1, h2⟩ := h
  rcases h2 with ⟨e1, -⟩ | ⟨g', cap', cur, hv, hb, hg, hnc, hcm, hcs, htake⟩
  · cases e1
  · cases hv
    refine ⟨by rw [flatMap_set hen l i j x u hi hj he, List.length_set, List.length_set]; exact h1, .inr ⟨g, cap, cur.setIfInBounds (i * sz + j) u, by rw [List.length_set], hb, ?_, by rw [List.length_set]; exact hnc, hcm, by simp [hcs], ?_⟩⟩
    · simp [World.setCell, Array.getElem?_modify, hg]
    · rw [flatMap_set hen l i j x u hi hj he, Array.toList_setIfInBounds, List.take_set, List.length_set, htake]
theorem OwnL.set1 {w : World} {base : Nat} {e : TypeId} {g n cap : Nat} {l : List Int} (h : OwnL w base e 1 encI (.slice (some ⟨g, 0, none⟩) n cap) l) {i : Nat} (hi : i < l.length) (x : Int) : OwnL (w.setCell ⟨g, i, none⟩ (.int .i64 x)) base e 1 encI (.slice (some ⟨g, 0, none⟩) n cap) (l.set i x) := by
  have := OwnL.setAt encI_len h (i := i) (j := 0) hi (by omega) x (.int .i64 x) rfl
  simpa using this
theorem OwnL.cl {α : Type} {w : World} {bs : Nat} {e : TypeId} {sz : Nat} {enc : α → List Value} {A : Option Addr} {n c : Nat} {l : List α} (hen : ∀ x, (enc x).length = sz) (ho : OwnL w bs e sz enc (.slice A n c) l) : Cells w A sz enc l := by
  obtain ⟨A, c, e, -, -, hc⟩ := ho.cells hen
  cases e
  exact hc
end Go.Bs
namespace Go.Proofs.Ytcnidhcdkbfpcaa
open Go.RowKit Go.Bs Go.Pg Go.Pl Go.Sort
theorem ShF.ext {w W W' : World} {s : Sh} {p : ShP} (h : ShF w W s p) (hb : Below W.heap.size W W') : ShF w W' s p :=
  ⟨h.m.ext hb, h.r.ext hb, h.a.ext hb, fun x hx => (h.c x hx).ext hb, h.i.ext hb, h.o.ext hb, h.b.ext hb, h.ri, h.ro⟩
/-- a store into a block of another type -/
theorem ShF.put {w W : World} {s : Sh} {p : ShP} (h : ShF w W s p) {X : Nat} {cs : List Value} (hX : Blk W X 35 cs) (i : Nat) (u : Value) : ShF w (W.setCell ⟨X, i, none⟩ u) s p := by
  have r := OwnL.othr h.r hX (by decide) i u
  have a := OwnL.othr h.a hX (by decide) i u
  have c := fun x hx => OwnL.othr (h.c x hx) hX (by decide) i u
  have ii := OwnL.othr h.i hX (by decide) i u
  have o := OwnL.othr h.o hX (by decide) i u
  have b := OwnL.othr h.b hX (by decide) i u
  exact ⟨⟨h.m.eq, a.cl acv_len, fun x hx => (c x hx).cl encU_len, r.cl encI_len, ii.cl encI_len, o.cl encI_len, b.cl encP_len, h.m.bits, h.m.small⟩, r, a, c, ii, o, b, h.ri, h.ro⟩
/-- one number of Rest changed -/
theorem ShF.setRest {w W : World} {s : Sh} {p : ShP} (h : ShF w W s p) {k : Nat} (hk : k < s.rest.length) (x : Int) : ∃ g, p.R = some ⟨g, 0, none⟩ ∧ w.heap.size ≤ g ∧ W.cell? ⟨g, k, none⟩ = some (.int .i64 s.rest[k]) ∧ W.frozen? ⟨g, k, none⟩ = false ∧
    ShM (W.setCell ⟨g, k, none⟩ (.int .i64 x)) {s with rest := s.rest.set k x} p ∧ ∀ X cs, Blk W X 35 cs → Blk (W.setCell ⟨g, k, none⟩ (.int .i64 x)) X 35 cs := by
  obtain ⟨g, cap, hv, hg, -, -, -, hc, hf⟩ := h.r.blk encI_len (by omega)
  obtain ⟨b, off, hA, -, c0⟩ := hc.at1 hk rfl
  cases hA
  rw [Nat.zero_add] at c0
  injection hv with hR h2 h3
  have hr := h.r
  rw [hR] at hr
  have r2 := OwnL.set1 hr hk x
  have ne : ∀ {α : Type} {bs : Nat} {e : TypeId} {sz : Nat} {enc : α → List Value} {v : Value} {l : List α}, OwnL W bs e sz enc v l → v.ownBlock ≠ some g → OwnL (W.setCell ⟨g, k, none⟩ (.int .i64 x)) bs e sz enc v l := fun ho hn => ho.put hn _
  have hown : (Value.slice p.R s.rest.length p.cR).ownBlock = some g := by rw [hR]; rfl
  have ty : ∀ {α : Type} {bs : Nat} {e : TypeId} {sz : Nat} {enc : α → List Value} {v : Value} {l : List α}, OwnL W bs e sz enc v l → (3 : Nat) ≠ e → OwnL (W.setCell ⟨g, k, none⟩ (.int .i64 x)) bs e sz enc v l := fun ho hT => by
    refine ne ho ?_
    rcases own_own ho h.r hT.symm with h1 | h1
    · rw [h1]; simp
    · rw [hown] at h1; exact h1
  have nil : ∀ {v : Value} {l : List Int} {A : Option Addr} {n c : Nat}, v = .slice A n c → (0 < l.length → (some g : Option Nat) ≠ v.ownBlock) → OwnL W 0 3 1 encI v l → Cells (W.setCell ⟨g, k, none⟩ (.int .i64 x)) A 1 encI l := fun {v l A n c} hv hn ho => by
    cases l with
    | nil => exact Cells.nil
    | cons y l => subst hv; exact (ne ho (fun e => hn (by simp) e.symm)).cl encI_len
  refine ⟨g, hR, hg, c0, hf k, ⟨h.m.eq, (ty h.a (by decide)).cl acv_len, fun x hx => (ty (h.c x hx) (by decide)).cl encU_len, ?_, nil rfl (fun hl => by rw [← hown]; exact h.ri (by omega) hl) h.i, nil rfl (fun hl => by rw [← hown]; exact h.ro (by omega) hl) h.o, (ty h.b (by decide)).cl encP_len, h.m.bits, ?_⟩, fun X cs hX => hX.other (fun e => ?_) _⟩
  · rw [hR]; exact r2.cl encI_len
  · simpa using h.m.small
  · have := own_ne h.r hX (by decide)
    rw [hown] at this
    apply this
    rw [e]
    simp
/-- seven stores into a block -/
theorem put7 {W : World} {X : Nat} {c0 c1 c2 c3 c4 c5 c6 : Value} (h : Blk W X 35 [c0, c1, c2, c3, c4, c5, c6]) (u0 u1 u2 u3 u4 u5 u6 : Value) :
    Blk (((((((W.setCell ⟨X, 0, none⟩ u0).setCell ⟨X, 1, none⟩ u1).setCell ⟨X, 2, none⟩ u2).setCell ⟨X, 3, none⟩ u3).setCell ⟨X, 4, none⟩ u4).setCell ⟨X, 5, none⟩ u5).setCell ⟨X, 6, none⟩ u6) X 35 [u0, u1, u2, u3, u4, u5, u6] ∧ (∀ w s p, ShF w W s p → ShF w (((((((W.setCell ⟨X, 0, none⟩ u0).setCell ⟨X, 1, none⟩ u1).setCell ⟨X, 2, none⟩ u2).setCell ⟨X, 3, none⟩ u3).setCell ⟨X, 4, none⟩ u4).setCell ⟨X, 5, none⟩ u5).setCell ⟨X, 6, none⟩ u6) s p) ∧ ∀ n w, n ≤ X → Below n w W → Below n w (((((((W.setCell ⟨X, 0, none⟩ u0).setCell ⟨X, 1, none⟩ u1).setCell ⟨X, 2, none⟩ u2).setCell ⟨X, 3, none⟩ u3).setCell ⟨X, 4, none⟩ u4).setCell ⟨X, 5, none⟩ u5).setCell ⟨X, 6, none⟩ u6) := by
  have b0 := h.set 0 u0
  have b1 := b0.set 1 u1
  have b2 := b1.set 2 u2
  have b3 := b2.set 3 u3
  have b4 := b3.set 4 u4
  have b5 := b4.set 5 u5
  exact ⟨b5.set 6 u6, fun w s p hf => ((((((hf.put h 0 u0).put b0 1 u1).put b1 2 u2).put b2 3 u3).put b3 4 u4).put b4 5 u5).put b5 6 u6, fun n w hn hb => ((((((hb.setCell hn u0).setCell hn u1).setCell hn u2).setCell hn u3).setCell hn u4).setCell hn u5).setCell hn u6⟩
/-- what Best returns of a show that has a best programme -/
theorem bestR_some {w W : World} {s : Sh} {v : Value} {q : List Nat} (h : BestR w s v W) (hok : s.Ok) (hq : s.solve = some q) : ∃ sl tv, v = .tuple #[sl, .int .i64 s.least, tv, .int .i64 0] ∧ Below w.heap.size w W := by
  obtain ⟨hb, h⟩ := h
  rcases h with ⟨h1, -⟩ | ⟨-, h1, -⟩ | ⟨-, l, sl, tv, hi, -, -, -, hv⟩
  · rw [Sh.ok_iff.2 hok] at h1; cases h1
  · rw [hq] at h1; cases h1
  · exact ⟨sl, tv, hv, hb⟩
theorem Best_some (t : Sh) (p : ShP) (W : World) (h : ShM W t p) (hok : t.Ok) {q : List Nat} (hq : t.solve = some q) :
    Calls Try.prog 16 #[shV t p] W fun e W' => ∃ sl tv, e = .returned (.tuple #[sl, .int .i64 t.least, tv, .int .i64 0]) ∧ Below W.heap.size W W' :=
  (Best_any t p W h).mono (by
    rintro e W' ⟨v, rfl, hR⟩
    obtain ⟨sl, tv, rfl, hb⟩ := bestR_some hR hok hq
    exact ⟨sl, tv, rfl, hb⟩)
set_option maxRecDepth 100000 in
set_option maxHeartbeats 10000000 in
theorem easier_law (s : Sh) (p : ShP) (cv pn : Int) (w : World) (h : ShW w s p) (hcv : 0 ≤ cv ∧ cv ≤ 255) (hpn : 0 ≤ pn ∧ pn ≤ 255) :
    Calls Try.prog 4 #[shV s p, .int .u8 cv, .int .u8 pn] w fun e w' => e = .returned (.bool true) ∧ Below w.heap.size w w' := by
  have hb0 := ext_alloc w (.cells (shC s p).toArray 26)
  have hS := Blk.new w 26 (shC s p)
  have h0 := h.ext hb0
  clear h
  unfold shV at *
  unfold shC at *
  go_enter Try.func4, Try.ntmps4
  go_upto_region 1 with fail
  change Blk (w.alloc (.cells #[.slice p.A s.acts.length p.cA, .slice p.R s.rest.length p.cR, .slice p.I s.ins.length p.cI, .slice p.O s.outs.length p.cO, .int .i64 s.cover, .int .i64 s.dull, .slice p.B s.before.length p.cB] 26)) _ _ _ at hS
  generalize w.alloc (.cells #[.slice p.A s.acts.length p.cA, .slice p.R s.rest.length p.cR, .slice p.I s.ins.length p.cI, .slice p.O s.outs.length p.cO, .int .i64 s.cover, .int .i64 s.dull, .slice p.B s.before.length p.cB] 26) = W0 at *
  have x0 : W0.cell? ⟨w.heap.size, 0, none⟩ = _ := hS.cell (i := 0) rfl
  have x1 : W0.cell? ⟨w.heap.size, 1, none⟩ = _ := hS.cell (i := 1) rfl
  have x2 : W0.cell? ⟨w.heap.size, 2, none⟩ = _ := hS.cell (i := 2) rfl
  have x3 : W0.cell? ⟨w.heap.size, 3, none⟩ = _ := hS.cell (i := 3) rfl
  have x4 : W0.cell? ⟨w.heap.size, 4, none⟩ = _ := hS.cell (i := 4) rfl
  have x5 : W0.cell? ⟨w.heap.size, 5, none⟩ = _ := hS.cell (i := 5) rfl
  have x6 : W0.cell? ⟨w.heap.size, 6, none⟩ = _ := hS.cell (i := 6) rfl
  go_wp2_with fail
  refine (Few_any s p W0 h0).mono ?_; rintro e W1 ⟨rfl, hb1⟩
  cases hf : s.fewB
  · clear x0 x1 x2 x3 x4 x5 x6
    go_wp2_with fail
    refine (wakes_any _).mono ?_; rintro e wz ⟨rfl, hbz⟩
    go_wp2
    go_ret
    exact ⟨rfl, ext_trans (ext_trans hb0 hb1) hbz⟩
  have hm1 := (h0.few hf).ext hb1
  have hS1 := hS.ext hb1
  have hbw := ext_trans hb0 hb1
  clear hb0 hb1 h0 hS hf x0 x1 x2 x3 x4 x5 x6
  have x0 : W1.cell? ⟨w.heap.size, 0, none⟩ = _ := hS1.cell (i := 0) rfl
  have x1 : W1.cell? ⟨w.heap.size, 1, none⟩ = _ := hS1.cell (i := 1) rfl
  have x2 : W1.cell? ⟨w.heap.size, 2, none⟩ = _ := hS1.cell (i := 2) rfl
  have x3 : W1.cell? ⟨w.heap.size, 3, none⟩ = _ := hS1.cell (i := 3) rfl
  have x4 : W1.cell? ⟨w.heap.size, 4, none⟩ = _ := hS1.cell (i := 4) rfl
  have x5 : W1.cell? ⟨w.heap.size, 5, none⟩ = _ := hS1.cell (i := 5) rfl
  have x6 : W1.cell? ⟨w.heap.size, 6, none⟩ = _ := hS1.cell (i := 6) rfl
  go_wp2_with fail
  refine (Right_any s p W1 hm1).mono ?_; rintro e W2 ⟨rfl, hb2⟩
  clear x0 x1 x2 x3 x4 x5 x6
  cases hok : s.okB
  · clear hok
    go_wp2_with fail
    refine (wakes_any _).mono ?_; rintro e wz ⟨rfl, hbz⟩
    go_wp2
    go_ret
    exact ⟨rfl, ext_trans (ext_trans hbw hb2) hbz⟩
  have Hok := Lib.hid (Sh.ok_of hok)
  have hm2 := hm1.ext hb2
  have hS2 := hS1.ext hb2
  have hbw2 := ext_trans hbw hb2
  clear hbw hb2 hm1 hS1 hok
  have x0 : W2.cell? ⟨w.heap.size, 0, none⟩ = _ := hS2.cell (i := 0) rfl
  have x1 : W2.cell? ⟨w.heap.size, 1, none⟩ = _ := hS2.cell (i := 1) rfl
  have x2 : W2.cell? ⟨w.heap.size, 2, none⟩ = _ := hS2.cell (i := 2) rfl
  have x3 : W2.cell? ⟨w.heap.size, 3, none⟩ = _ := hS2.cell (i := 3) rfl
  have x4 : W2.cell? ⟨w.heap.size, 4, none⟩ = _ := hS2.cell (i := 4) rfl
  have x5 : W2.cell? ⟨w.heap.size, 5, none⟩ = _ := hS2.cell (i := 5) rfl
  have x6 : W2.cell? ⟨w.heap.size, 6, none⟩ = _ := hS2.cell (i := 6) rfl
  go_wp2_with fail
  refine (Show_any s p W2 hm2).mono ?_; rintro e W3 ⟨⟨p1, rfl, hm3⟩, hb3⟩
  clear x0 x1 x2 x3 x4 x5 x6
  go_wp2_with fail
  refine (Best_any s p1 W3 hm3).mono ?_; rintro e W4 ⟨v, rfl, hR⟩
  cases hq : s.solve with
  | none =>
    obtain ⟨hb4, hc⟩ := hR
    have hv : v = .tuple #[.slice none 0 0, .int .i64 0, .slice none 0 0, .int .i64 7] := by
      rcases hc with ⟨h1, -⟩ | ⟨-, -, h1⟩ | ⟨-, l, sl, tv, hi, h1, -⟩
      · rw [Sh.ok_iff.2 Hok.out] at h1; cases h1
      · exact h1
      · rw [hq] at h1; cases h1
    subst hv
    clear hc hq
    go_wp2_with fail
    refine (wakes_any _).mono ?_; rintro e wz ⟨rfl, hbz⟩
    go_wp2
    go_ret
    exact ⟨rfl, ext_trans (ext_trans hbw2 (ext_trans hb3 hb4)) hbz⟩
  | some q =>
    obtain ⟨sl, tv, rfl, hb4⟩ := bestR_some hR Hok.out hq
    have HE := Lib.hid (fun t ht h => Sh.easier (t := t) Hok.out ht h hq)
    clear hR hq hm3
    have hb34 := ext_trans hb3 hb4
    have hm4 := hm2.ext hb34
    have hS4 := hS2.ext hb34
    have hbw4 := ext_trans hbw2 hb34
    clear hm2 hS2 hbw2 hb3 hb4 hb34
    generalize s.least = le at *
    go_upto_region 6 with fail
    have x0 : W4.cell? ⟨w.heap.size, 0, none⟩ = _ := hS4.cell (i := 0) rfl
    have x1 : W4.cell? ⟨w.heap.size, 1, none⟩ = _ := hS4.cell (i := 1) rfl
    have x2 : W4.cell? ⟨w.heap.size, 2, none⟩ = _ := hS4.cell (i := 2) rfl
    have x3 : W4.cell? ⟨w.heap.size, 3, none⟩ = _ := hS4.cell (i := 3) rfl
    have x4 : W4.cell? ⟨w.heap.size, 4, none⟩ = _ := hS4.cell (i := 4) rfl
    have x5 : W4.cell? ⟨w.heap.size, 5, none⟩ = _ := hS4.cell (i := 5) rfl
    have x6 : W4.cell? ⟨w.heap.size, 6, none⟩ = _ := hS4.cell (i := 6) rfl
    go_wp2_with fail
    refine (ShowF_any s p W4 hm4).mono ?_; rintro e W5 ⟨⟨p2, rfl, hF5⟩, hb5⟩
    clear x0 x1 x2 x3 x4 x5 x6
    have hm5 := hm4.ext hb5
    have hS5 := hS4.ext hb5
    have hbw5 := ext_trans hbw4 hb5
    clear hm4 hS4 hbw4 hb5
    have hY : Blk (W5.alloc (.cells #[.slice p2.A s.acts.length p2.cA, .slice p2.R s.rest.length p2.cR, .slice p2.I s.ins.length p2.cI, .slice p2.O s.outs.length p2.cO, .int .i64 s.cover, .int .i64 s.dull, .slice p2.B s.before.length p2.cB] 35)) W5.heap.size 35 (shC s p2) := Blk.new W5 35 (shC s p2)
    have hAl := ext_alloc W5 (.cells #[.slice p2.A s.acts.length p2.cA, .slice p2.R s.rest.length p2.cR, .slice p2.I s.ins.length p2.cI, .slice p2.O s.outs.length p2.cO, .int .i64 s.cover, .int .i64 s.dull, .slice p2.B s.before.length p2.cB] 35)
    have hF6 := hF5.ext hAl
    have HM5 := Lib.hid (fun W (hb : Below W5.heap.size W5 W) => And.intro (hm5.ext hb) (And.intro (hS5.ext hb) (ext_trans hbw5 hb)))
    have hX := hS5.lt
    unfold shV
    go_upto_region 7 with fail
    unfold shC at hY
    clear hF5 hm5 hS5 hbw5
    generalize W5.heap.size = X at *
    generalize W5.alloc (.cells #[.slice p2.A s.acts.length p2.cA, .slice p2.R s.rest.length p2.cR, .slice p2.I s.ins.length p2.cI, .slice p2.O s.outs.length p2.cO, .int .i64 s.cover, .int .i64 s.dull, .slice p2.B s.before.length p2.cB] 35) = W6 at *
    have hcr := Hok.out.cover
    have y4 : W6.cell? ⟨X, 4, none⟩ = _ := hY.cell (i := 4) rfl
    have f4 := hY.free 4
    go_upto_region 8 with fail
    clear y4 f4
    have hc1 : s.cover ≤ min 60 (s.cover + cv % 30) ∧ 0 ≤ min 60 (s.cover + cv % 30) ∧ min 60 (s.cover + cv % 30) ≤ 60 := by omega
    generalize min 60 (s.cover + cv % 30) = c1 at *
    have hF7 := hF6.put hY 4 (.int .i64 c1)
    have hY7 := hY.set 4 (.int .i64 c1)
    have hb7 := hAl.setCell (p := ⟨X, 4, none⟩) (Nat.le_refl X) (.int .i64 c1)
    change Blk _ X 35 [.slice p2.A s.acts.length p2.cA, .slice p2.R s.rest.length p2.cR, .slice p2.I s.ins.length p2.cI, .slice p2.O s.outs.length p2.cO, .int .i64 c1, .int .i64 s.dull, .slice p2.B s.before.length p2.cB] at hY7
    clear hF6 hY hAl
    generalize W6.setCell ⟨X, 4, none⟩ (.int .i64 c1) = W7 at *
    have hm7 : ShM W7 {s with cover := c1} p2 := ⟨hF7.m.eq, hF7.m.acts, hF7.m.casts, hF7.m.rest, hF7.m.ins, hF7.m.outs, hF7.m.before, hF7.m.bits, hF7.m.small⟩
    have hok1 := Sh.ok_cover Hok.out (c := c1) ⟨hc1.2.1, hc1.2.2⟩
    obtain ⟨q1, hq1, hle1⟩ := HE.out _ hok1 (Sh.less_cover hc1.1)
    have CB := Lib.hid (Best_some {s with cover := c1} p2 W7 hm7 hok1 hq1)
    unfold shV at CB
    generalize Sh.least {s with cover := c1} = le1 at *
    clear hm7 hok1 hq1 hF7 hc1

    have y0 : W7.cell? ⟨X, 0, none⟩ = _ := hY7.cell (i := 0) rfl
    have f0 := hY7.free 0
    have y1 : W7.cell? ⟨X, 1, none⟩ = _ := hY7.cell (i := 1) rfl
    have f1 := hY7.free 1
    have y2 : W7.cell? ⟨X, 2, none⟩ = _ := hY7.cell (i := 2) rfl
    have f2 := hY7.free 2
    have y3 : W7.cell? ⟨X, 3, none⟩ = _ := hY7.cell (i := 3) rfl
    have f3 := hY7.free 3
    have y4 : W7.cell? ⟨X, 4, none⟩ = _ := hY7.cell (i := 4) rfl
    have f4 := hY7.free 4
    have y5 : W7.cell? ⟨X, 5, none⟩ = _ := hY7.cell (i := 5) rfl
    have f5 := hY7.free 5
    have y6 : W7.cell? ⟨X, 6, none⟩ = _ := hY7.cell (i := 6) rfl
    have f6 := hY7.free 6
    go_wp2_with fail
    refine CB.out.mono ?_; rintro e W8 ⟨sl1, tv1, rfl, hb8⟩
    have hb8' := hb7.trans (hb8.mono (Nat.le_of_lt hY7.lt))
    have hY8 := hY7.ext hb8
    clear CB hY7 hb7 hb8 y0 y1 y2 y3 y4 y5 y6 f0 f1 f2 f3 f4 f5 f6
    have hng : ¬ le1 > le := by omega
    have Hle1 := Lib.hid hle1
    clear hle1
    obtain ⟨hm8, hS8, hbw8⟩ := HM5.out W8 hb8'
    go_upto_region 11 with fail
    clear hng

    have x0 : W8.cell? ⟨w.heap.size, 0, none⟩ = _ := hS8.cell (i := 0) rfl
    have x1 : W8.cell? ⟨w.heap.size, 1, none⟩ = _ := hS8.cell (i := 1) rfl
    have x2 : W8.cell? ⟨w.heap.size, 2, none⟩ = _ := hS8.cell (i := 2) rfl
    have x3 : W8.cell? ⟨w.heap.size, 3, none⟩ = _ := hS8.cell (i := 3) rfl
    have x4 : W8.cell? ⟨w.heap.size, 4, none⟩ = _ := hS8.cell (i := 4) rfl
    have x5 : W8.cell? ⟨w.heap.size, 5, none⟩ = _ := hS8.cell (i := 5) rfl
    have x6 : W8.cell? ⟨w.heap.size, 6, none⟩ = _ := hS8.cell (i := 6) rfl
    go_wp2_with fail
    refine (ShowF_any s p W8 hm8).mono ?_; rintro e W9 ⟨⟨p3, rfl, hF9⟩, hb9⟩
    clear x0 x1 x2 x3 x4 x5 x6
    have hY9 := hY8.ext hb9
    have hb9' := hb8'.trans (hb9.mono (Nat.le_of_lt hY8.lt))
    have hX8 := hY8.lt
    unfold shV
    clear hm8 hS8 hbw8 hb8' hY8 hb9
    have y0 : W9.cell? ⟨X, 0, none⟩ = _ := hY9.cell (i := 0) rfl
    have f0 := hY9.free 0
    have y1 : W9.cell? ⟨X, 1, none⟩ = _ := hY9.cell (i := 1) rfl
    have f1 := hY9.free 1
    have y2 : W9.cell? ⟨X, 2, none⟩ = _ := hY9.cell (i := 2) rfl
    have f2 := hY9.free 2
    have y3 : W9.cell? ⟨X, 3, none⟩ = _ := hY9.cell (i := 3) rfl
    have f3 := hY9.free 3
    have y4 : W9.cell? ⟨X, 4, none⟩ = _ := hY9.cell (i := 4) rfl
    have f4 := hY9.free 4
    have y5 : W9.cell? ⟨X, 5, none⟩ = _ := hY9.cell (i := 5) rfl
    have f5 := hY9.free 5
    have y6 : W9.cell? ⟨X, 6, none⟩ = _ := hY9.cell (i := 6) rfl
    have f6 := hY9.free 6
    go_upto_region 12 with fail
    obtain ⟨hY10, hP, hQ⟩ := put7 hY9 (.slice p3.A s.acts.length p3.cA) (.slice p3.R s.rest.length p3.cR) (.slice p3.I s.ins.length p3.cI) (.slice p3.O s.outs.length p3.cO) (.int .i64 s.cover) (.int .i64 s.dull) (.slice p3.B s.before.length p3.cB)
    have hF10 := hP _ _ _ hF9
    have hb10 := hQ X W5 (Nat.le_refl X) hb9'
    clear hP hQ hF9 hb9' hY9 y0 y1 y2 y3 y4 y5 y6 f0 f1 f2 f3 f4 f5 f6
    generalize (((((((W9.setCell _ _).setCell _ _).setCell _ _).setCell _ _).setCell _ _).setCell _ _).setCell _ _) = W10 at *
    have y1 : W10.cell? ⟨X, 1, none⟩ = _ := hY10.cell (i := 1) rfl
    go_upto_if 71 with fail
    clear y1
    go_cut [15] (fun z Wc => z = .int .i64 s.rest.length ∧ ∃ k x, Hid (0 ≤ x ∧ x ≤ 2 ∧ x ≤ s.rest.getD k 0) ∧ ShM Wc {s with rest := s.rest.set k x} p3 ∧ Blk Wc X 35 [.slice p3.A s.acts.length p3.cA, .slice p3.R s.rest.length p3.cR, .slice p3.I s.ins.length p3.cI, .slice p3.O s.outs.length p3.cO, .int .i64 s.cover, .int .i64 s.dull, .slice p3.B s.before.length p3.cB] ∧ Below X W5 Wc)
    case first =>
      by_cases hn : 0 < s.rest.length
      · have hn' : (s.rest.length : Int) > 0 := by omega
        go_upto_region 14 with fail
        refine Dr.wp_region_plan 17 [] (.q [0, 1, 2, 3, 4, 5, 6, 7, 8, 9, 10, 11, 12, 13, 14, 15, 16] .done) (by kernel_rfl) (by kernel_rfl) ?_
        have hFd := hF10.ext (ext_drew W10)
        have hYd := hY10.ext (ext_drew W10)
        have hbd := hb10.trans ((ext_drew W10).mono (Nat.le_of_lt hY10.lt))
        clear hF10 hY10 hb10
        generalize World.drew _ = W at *
        have hn0 : (s.rest.length : Int) ≠ 0 := by omega
        have hr0 := Int.emod_nonneg pn hn0
        have hr1 := Int.emod_lt_of_pos pn hn'
        obtain ⟨k, hk⟩ : ∃ k : Nat, pn % (s.rest.length : Int) = k := ⟨(pn % (s.rest.length : Int)).toNat, by omega⟩
        rw [hk] at hr0 hr1
        have hkl : k < s.rest.length := by omega
        obtain ⟨g, hR, hg, c0, fr, hM, hXk⟩ := hFd.setRest hkl (max 0 (s.rest[k] - 1))
        have hv := Hok.out.rest _ (List.getElem_mem hkl)
        have hgd : s.rest.getD k 0 = s.rest[k] := by simp [hkl]
        have Hx := Lib.hid (show 0 ≤ max 0 (s.rest[k] - 1) ∧ max 0 (s.rest[k] - 1) ≤ 2 ∧ max 0 (s.rest[k] - 1) ≤ s.rest.getD k 0 from by rw [hgd]; omega)
        have HM := Lib.hid hM
        have HXk := Lib.hid (hXk X _ hYd)
        have Hbk := Lib.hid (hbd.setCell (p := ⟨g, k, none⟩) (show X ≤ g by omega) (.int .i64 (max 0 (s.rest[k] - 1))))
        rw [hR] at hYd
        clear hM hXk hgd
        generalize hv2 : s.rest[k] = v at *
        have Hv2 := Lib.hid hv2
        clear hv2
        have q0 := Dr.cell0 (hYd.cell (i := 1) rfl)
        have q1 := Dr.cell0 c0
        have HR := Lib.hid hR
        clear hR
        refine Dr.plan_q (l := [_, _, _, _, _, _, _, _, _, _, _, _, _, _, _, _, _]) rfl (fun K hK => ?_)
        iterate 17 (go_big_quiet_step (fail))
        refine wpQuiet_nil (hK _ ?_); clear hK K
        refine Dr.plan_done (tl := [_]) rfl ?_
        go_wp2
        go_meet
        case rel => exact ⟨rfl, k, max 0 (v - 1), Hx, HM.out, HXk.out, Hbk.out⟩
      · have hn' : ¬ (s.rest.length : Int) > 0 := by omega
        have hrn : s.rest = [] := List.length_eq_zero_iff.1 (by omega)
        have HM := Lib.hid (show ShM W10 {s with rest := s.rest.set 0 0} p3 from ⟨hF10.m.eq, hF10.m.acts, hF10.m.casts, by rw [hrn]; exact Cells.nil, hF10.m.ins, hF10.m.outs, hF10.m.before, hF10.m.bits, by simpa using hF10.m.small⟩)
        have HZ := Lib.hid (show (0 : Int) ≤ 0 ∧ (0 : Int) ≤ 2 ∧ (0 : Int) ≤ s.rest.getD 0 0 from by rw [hrn]; decide)
        clear hrn hn
        go_wp2
        go_meet
        case rel => exact ⟨rfl, 0, 0, HZ, HM.out, hY10, hb10⟩
    case rest =>
      obtain ⟨rfl, k, x, Hx, hmc, hYc, hbc⟩ := hcut
      clear hF10 hY10 hb10
      have hok2 := Sh.ok_rest Hok.out (k := k) (x := x) ⟨Hx.out.1, Hx.out.2.1⟩
      obtain ⟨q2, hq2, hle2⟩ := HE.out _ hok2 (Sh.less_rest Hx.out.2.2)
      have CB := Best_some {s with rest := s.rest.set k x} p3 wc hmc hok2 hq2
      unfold shV at CB
      simp only [List.length_set] at CB
      have CB := Lib.hid CB
      generalize Sh.least {s with rest := s.rest.set k x} = le2 at *
      clear hmc hok2 hq2 Hx
      have y0 : wc.cell? ⟨X, 0, none⟩ = _ := hYc.cell (i := 0) rfl
      have f0 := hYc.free 0
      have y1 : wc.cell? ⟨X, 1, none⟩ = _ := hYc.cell (i := 1) rfl
      have f1 := hYc.free 1
      have y2 : wc.cell? ⟨X, 2, none⟩ = _ := hYc.cell (i := 2) rfl
      have f2 := hYc.free 2
      have y3 : wc.cell? ⟨X, 3, none⟩ = _ := hYc.cell (i := 3) rfl
      have f3 := hYc.free 3
      have y4 : wc.cell? ⟨X, 4, none⟩ = _ := hYc.cell (i := 4) rfl
      have f4 := hYc.free 4
      have y5 : wc.cell? ⟨X, 5, none⟩ = _ := hYc.cell (i := 5) rfl
      have f5 := hYc.free 5
      have y6 : wc.cell? ⟨X, 6, none⟩ = _ := hYc.cell (i := 6) rfl
      have f6 := hYc.free 6
      go_wp2_with fail
      refine CB.out.mono ?_; rintro e W12 ⟨sl2, tv2, rfl, hb12⟩
      have hb12' := hbc.trans (hb12.mono (Nat.le_of_lt hYc.lt))
      have hY12 := hYc.ext hb12
      clear CB hYc hbc hb12 y0 y1 y2 y3 y4 y5 y6 f0 f1 f2 f3 f4 f5 f6
      have hng : ¬ le2 > le := by omega
      have Hle2 := Lib.hid hle2
      clear hle2
      obtain ⟨hm12, hS12, hbw12⟩ := HM5.out W12 hb12'
      go_upto_region 18 with fail
      clear hng
      have x0 : W12.cell? ⟨w.heap.size, 0, none⟩ = _ := hS12.cell (i := 0) rfl
      have x1 : W12.cell? ⟨w.heap.size, 1, none⟩ = _ := hS12.cell (i := 1) rfl
      have x2 : W12.cell? ⟨w.heap.size, 2, none⟩ = _ := hS12.cell (i := 2) rfl
      have x3 : W12.cell? ⟨w.heap.size, 3, none⟩ = _ := hS12.cell (i := 3) rfl
      have x4 : W12.cell? ⟨w.heap.size, 4, none⟩ = _ := hS12.cell (i := 4) rfl
      have x5 : W12.cell? ⟨w.heap.size, 5, none⟩ = _ := hS12.cell (i := 5) rfl
      have x6 : W12.cell? ⟨w.heap.size, 6, none⟩ = _ := hS12.cell (i := 6) rfl
      go_wp2_with fail
      refine (ShowF_any s p W12 hm12).mono ?_; rintro e W13 ⟨⟨p4, rfl, hF13⟩, hb13⟩
      clear x0 x1 x2 x3 x4 x5 x6
      have hY13 := hY12.ext hb13
      have hb13' := hb12'.trans (hb13.mono (Nat.le_of_lt hY12.lt))
      unfold shV
      clear hm12 hS12 hbw12 hb12' hY12 hb13
      have y0 : W13.cell? ⟨X, 0, none⟩ = _ := hY13.cell (i := 0) rfl
      have f0 := hY13.free 0
      have y1 : W13.cell? ⟨X, 1, none⟩ = _ := hY13.cell (i := 1) rfl
      have f1 := hY13.free 1
      have y2 : W13.cell? ⟨X, 2, none⟩ = _ := hY13.cell (i := 2) rfl
      have f2 := hY13.free 2
      have y3 : W13.cell? ⟨X, 3, none⟩ = _ := hY13.cell (i := 3) rfl
      have f3 := hY13.free 3
      have y4 : W13.cell? ⟨X, 4, none⟩ = _ := hY13.cell (i := 4) rfl
      have f4 := hY13.free 4
      have y5 : W13.cell? ⟨X, 5, none⟩ = _ := hY13.cell (i := 5) rfl
      have f5 := hY13.free 5
      have y6 : W13.cell? ⟨X, 6, none⟩ = _ := hY13.cell (i := 6) rfl
      have f6 := hY13.free 6
      go_upto_region 19 with fail
      obtain ⟨hY14, hP, hQ⟩ := put7 hY13 (.slice p4.A s.acts.length p4.cA) (.slice p4.R s.rest.length p4.cR) (.slice p4.I s.ins.length p4.cI) (.slice p4.O s.outs.length p4.cO) (.int .i64 s.cover) (.int .i64 s.dull) (.slice p4.B s.before.length p4.cB)
      have hF14 := hP _ _ _ hF13
      have hb14 := hQ X W5 (Nat.le_refl X) hb13'
      clear hP hQ hF13 hb13' hY13 y0 y1 y2 y3 y4 y5 y6 f0 f1 f2 f3 f4 f5 f6
      generalize (((((((W13.setCell _ _).setCell _ _).setCell _ _).setCell _ _).setCell _ _).setCell _ _).setCell _ _) = W14 at *
      have y6 : W14.cell? ⟨X, 6, none⟩ = _ := hY14.cell (i := 6) rfl
      have f6 := hY14.free 6
      go_upto_if 109 with fail
      go_cut [16] (fun z Wc => z = .int .i64 s.before.length ∧ ShM Wc {s with before := s.before.dropLast} p4 ∧ Blk Wc X 35 [.slice p4.A s.acts.length p4.cA, .slice p4.R s.rest.length p4.cR, .slice p4.I s.ins.length p4.cI, .slice p4.O s.outs.length p4.cO, .int .i64 s.cover, .int .i64 s.dull, .slice p4.B (s.before.length - 1) p4.cB] ∧ Below X W5 Wc)
      case first =>
        have hdl : s.before.dropLast.length = s.before.length - 1 := List.length_dropLast
        have hbc : Cells W14 p4.B 2 encP s.before.dropLast := fun i y hi => hF14.m.before i y (by
          rw [List.getElem?_dropLast] at hi
          split at hi
          · exact hi
          · cases hi)
        by_cases hn : 0 < s.before.length
        · have hn' : (s.before.length : Int) > 0 := by omega
          have hsub : (s.before.length : Int) - 1 = ((s.before.length - 1 : Nat) : Int) := by omega
          obtain ⟨bb, ob, hB, -, -, -⟩ := hF14.m.before.at2 (k := 0) hn rfl
          have hcap : s.before.length ≤ p4.cB := by
            obtain ⟨A, c, e, h1, -, -⟩ := hF14.b.cells encP_len
            injection e with e1 e2 e3
            omega
          have hF15 := hF14.put hY14 6 (.slice p4.B (s.before.length - 1) p4.cB)
          have hY15 := hY14.set 6 (.slice p4.B (s.before.length - 1) p4.cB)
          have hb15 := hb14.setCell (p := ⟨X, 6, none⟩) (Nat.le_refl X) (.slice p4.B (s.before.length - 1) p4.cB)
          have HC := Lib.hid (show Cells (W14.setCell ⟨X, 6, none⟩ (.slice p4.B (s.before.length - 1) p4.cB)) p4.B 2 encP s.before.dropLast from fun i y hi => hF15.m.before i y (by
            rw [List.getElem?_dropLast] at hi
            split at hi
            · exact hi
            · cases hi))
          have HY := Lib.hid (show Blk (W14.setCell ⟨X, 6, none⟩ (.slice p4.B (s.before.length - 1) p4.cB)) X 35 [.slice p4.A s.acts.length p4.cA, .slice p4.R s.rest.length p4.cR, .slice p4.I s.ins.length p4.cI, .slice p4.O s.outs.length p4.cO, .int .i64 s.cover, .int .i64 s.dull, .slice p4.B (s.before.length - 1) p4.cB] from hY15)
          have HM := Lib.hid (show ShM (W14.setCell ⟨X, 6, none⟩ (.slice p4.B (s.before.length - 1) p4.cB)) {s with before := s.before.dropLast} p4 from ⟨hF15.m.eq, hF15.m.acts, hF15.m.casts, hF15.m.rest, hF15.m.ins, hF15.m.outs, HC.out, hF15.m.bits, ⟨hF15.m.small.1, hF15.m.small.2.1, hF15.m.small.2.2.1, hF15.m.small.2.2.2.1, by have := hF15.m.small.2.2.2.2; show s.before.dropLast.length ≤ 1000; omega⟩⟩)
          have Hb15 := Lib.hid hb15
          rw [hB] at y6 HM HY Hb15
          have HB := Lib.hid hB
          have hz20 : s.before.length ≤ 20 := Hok.out.b20
          clear hdl hbc hF15 hY15 hb15 HC hB hF14 hY14 hb14 hsub hn'
          generalize hN : s.before.length = N at *
          obtain ⟨m, rfl⟩ : ∃ m, N = m + 1 := ⟨N - 1, by omega⟩
          have HN := Lib.hid hN
          clear hN hn
          simp only [Nat.add_sub_cancel] at HY HM Hb15
          have hn' : ((m + 1 : Nat) : Int) > 0 := by omega
          have hsub : ((m + 1 : Nat) : Int) - 1 = (m : Int) := by omega
          have hz0 : (0 : Int) ≤ (m : Int) := by omega
          have hz1 : (m : Int) ≤ (p4.cB : Int) := by omega
          have hz2 : m ≤ p4.cB := by omega
          go_wp2
          go_meet
          case rel => exact ⟨rfl, HM.out, by rw [HB.out]; exact HY.out, Hb15.out⟩
        · have hn' : ¬ (s.before.length : Int) > 0 := by omega
          have HY := Lib.hid (show Blk W14 X 35 [.slice p4.A s.acts.length p4.cA, .slice p4.R s.rest.length p4.cR, .slice p4.I s.ins.length p4.cI, .slice p4.O s.outs.length p4.cO, .int .i64 s.cover, .int .i64 s.dull, .slice p4.B (s.before.length - 1) p4.cB] from by rw [show s.before.length - 1 = s.before.length by omega]; exact hY14)
          have HM := Lib.hid (show ShM W14 {s with before := s.before.dropLast} p4 from ⟨hF14.m.eq, hF14.m.acts, hF14.m.casts, hF14.m.rest, hF14.m.ins, hF14.m.outs, hbc, hF14.m.bits, ⟨hF14.m.small.1, hF14.m.small.2.1, hF14.m.small.2.2.1, hF14.m.small.2.2.2.1, by have := hF14.m.small.2.2.2.2; show s.before.dropLast.length ≤ 1000; omega⟩⟩)
          clear hdl hbc hn
          go_wp2
          go_meet
          case rel => exact ⟨rfl, HM.out, HY.out, hb14⟩
      case rest =>
        obtain ⟨rfl, hmd, hYd, hbd⟩ := hcut
        clear hF14 hY14 hb14 y6 f6
        have hok3 := Sh.ok_before Hok.out
        obtain ⟨q3, hq3, hle3⟩ := HE.out _ hok3 Sh.less_before
        have CB := Best_some {s with before := s.before.dropLast} p4 wc hmd hok3 hq3
        unfold shV at CB
        simp only [List.length_dropLast] at CB
        have CB := Lib.hid CB
        generalize Sh.least {s with before := s.before.dropLast} = le3 at *
        clear hmd hok3 hq3
        have y0 : wc.cell? ⟨X, 0, none⟩ = _ := hYd.cell (i := 0) rfl
        have f0 := hYd.free 0
        have y1 : wc.cell? ⟨X, 1, none⟩ = _ := hYd.cell (i := 1) rfl
        have f1 := hYd.free 1
        have y2 : wc.cell? ⟨X, 2, none⟩ = _ := hYd.cell (i := 2) rfl
        have f2 := hYd.free 2
        have y3 : wc.cell? ⟨X, 3, none⟩ = _ := hYd.cell (i := 3) rfl
        have f3 := hYd.free 3
        have y4 : wc.cell? ⟨X, 4, none⟩ = _ := hYd.cell (i := 4) rfl
        have f4 := hYd.free 4
        have y5 : wc.cell? ⟨X, 5, none⟩ = _ := hYd.cell (i := 5) rfl
        have f5 := hYd.free 5
        have y6 : wc.cell? ⟨X, 6, none⟩ = _ := hYd.cell (i := 6) rfl
        have f6 := hYd.free 6
        go_wp2_with fail
        refine CB.out.mono ?_; rintro e W16 ⟨sl3, tv3, rfl, hb16⟩
        have hb16' := hbd.trans (hb16.mono (Nat.le_of_lt hYd.lt))
        clear CB hYd hbd hb16 y0 y1 y2 y3 y4 y5 y6 f0 f1 f2 f3 f4 f5 f6
        obtain ⟨-, -, hbw16⟩ := HM5.out W16 hb16'
        have hng : le3 ≤ le := hle3
        have Hle3 := Lib.hid hle3
        clear hle3
        go_wp2_with fail
        refine (wakes_any _).mono ?_; rintro e wz ⟨rfl, hbz⟩
        go_wp2
        go_ret
        exact ⟨rfl, ext_trans hbw16 hbz⟩
end Go.Proofs.Ytcnidhcdkbfpcaa

/- Tables in memory; what the making of one keeps. -/
import Derived.Test.YtcnidhcdkbfpcaaPrhA
namespace Go.Proofs.Ytcnidhcdkbfpcaa
open Go.RowKit Go.Bs Go.Pg Go.Pl Go.Sort
def encR (r : Nat × Nat) : List Value := [.slice (some ⟨r.1, 0, none⟩) r.2 r.2]
theorem encR_len (r : Nat × Nat) : (encR r).length = 1 := rfl
theorem encR_one (r : Nat × Nat) : ∀ u ∈ encR r, u.oneCell' = true := by intro u hu; simp [encR] at hu; rw [hu]; rfl
theorem et29 : ElemT Try.prog 29 23 1 24 := ElemT.mk (z := .slice none 0 0) Try.underlying29 (by kernel_rfl) rfl
theorem OwnL.bel1 {α : Type} {w w' : World} {base : Nat} {e : TypeId} {sz : Nat} {enc : α → List Value} {v : Value} {l : List α} (h : OwnL w base e sz enc v l) {B : Nat} (hb : Dr.Bel [B] w w') (hB : v.ownBlock ≠ some B) : OwnL w' base e sz enc v l := by
  refine h.kept (row := some B) ⟨hb.os, hb.tape, hb.output, hb.size, fun k hk hne => hb.block k hk (by simp; intro e; exact hne (by rw [e]))⟩ ?_
  cases hv : v.ownBlock with
  | none => exact .inl rfl
  | some k => right; rw [← hv]; exact hB
/-- a table in memory: all its blocks from lo on, below hi -/
def TabM (w : World) (lo hi : Nat) (v : Value) (T : List (List Int)) : Prop :=
  ∃ rs : List (Nat × Nat), OwnL w lo 23 1 encR v rs ∧ (∀ g, v.ownBlock = some g → g < hi) ∧ rs.length = T.length ∧
    ∀ i (h : i < rs.length) (h2 : i < T.length), lo ≤ rs[i].1 ∧ rs[i].1 < hi ∧ rs[i].2 = T[i].length ∧ Blk w rs[i].1 3 (T[i].map (Value.int .i64))
section
variable {w w' : World} {lo hi : Nat} {v : Value} {T : List (List Int)}
theorem TabM.nil : TabM w lo hi (.slice none 0 0) [] := ⟨[], OwnL.nil, fun g h => by simp [Value.ownBlock] at h, rfl, fun i h => by simp at h⟩
theorem TabM.bel (h : TabM w lo hi v T) {k : Nat} (hk : k < lo ∨ hi ≤ k) (hb : Dr.Bel [k] w w') : TabM w' lo hi v T := by
  obtain ⟨rs, h1, h2, h3, h4⟩ := h
  refine ⟨rs, OwnL.bel1 h1 hb (fun e => ?_), h2, h3, fun i a b => ?_⟩
  · have := h2 k e
    have := (h1.lt e).1
    omega
  · obtain ⟨c1, c2, c3, c4⟩ := h4 i a b
    exact ⟨c1, c2, c3, hb.blk c4 (by simp; omega)⟩
theorem TabM.ext (h : TabM w lo hi v T) (hb : Below w.heap.size w w') : TabM w' lo hi v T := by
  obtain ⟨rs, h1, h2, h3, h4⟩ := h
  exact ⟨rs, h1.ext hb, h2, h3, fun i a b => by
    obtain ⟨c1, c2, c3, c4⟩ := h4 i a b
    exact ⟨c1, c2, c3, c4.ext hb⟩⟩
theorem TabM.grow (h : TabM w lo hi v T) {lo' hi' : Nat} (h1 : lo' ≤ lo) (h2 : hi ≤ hi') : TabM w lo' hi' v T := by
  obtain ⟨rs, a1, a2, a3, a4⟩ := h
  exact ⟨rs, OwnL.up a1 h1, fun g hg => Nat.lt_of_lt_of_le (a2 g hg) h2, a3, fun i a b => by
    obtain ⟨c1, c2, c3, c4⟩ := a4 i a b
    exact ⟨Nat.le_trans h1 c1, Nat.lt_of_lt_of_le c2 h2, c3, c4⟩⟩
/-- one row more -/
theorem TabM.snoc {rs : List (Nat × Nat)} {row : List Int} {R g' cap : Nat} (hR : Blk w R 3 (row.map (Value.int .i64))) (hlo : lo ≤ R) (hv2 : ∀ g, v.ownBlock = some g → g < hi) (h3 : rs.length = T.length)
    (h4 : ∀ i (h : i < rs.length) (h2 : i < T.length), lo ≤ rs[i].1 ∧ rs[i].1 < hi ∧ rs[i].2 = T[i].length ∧ Blk w rs[i].1 3 (T[i].map (Value.int .i64))) (h1 : OwnL w lo 23 1 encR v rs)
    (hn : OwnL w' lo 23 1 encR (.slice (some ⟨g', 0, none⟩) (rs.length + 1) cap) (rs ++ [(R, row.length)])) (hg : w.grownBy w' v.ownBlock) : TabM w' lo w'.heap.size (.slice (some ⟨g', 0, none⟩) (rs.length + 1) cap) (T ++ [row]) := by
  have hkeep : ∀ {b : Nat} {l : List Int}, Blk w b 3 (l.map (Value.int .i64)) → Blk w' b 3 (l.map (Value.int .i64)) := fun {b l} hb =>
    (hg.block b hb.lt (fun e => by
      have := own_ne h1 hb (by decide)
      rw [← e] at this
      simp at this)).trans hb
  refine ⟨rs ++ [(R, row.length)], hn, fun g hgv => (hn.lt hgv).2, by simp [h3], fun i a b => ?_⟩
  by_cases hi' : i < rs.length
  · obtain ⟨c1, c2, c3, c4⟩ := h4 i hi' (by omega)
    rw [List.getElem_append_left hi', List.getElem_append_left (by omega)]
    exact ⟨c1, Nat.lt_of_lt_of_le c4.lt hg.size, c3, hkeep c4⟩
  · have e : i = rs.length := by simp at a; omega
    subst e
    rw [List.getElem_append_right (Nat.le_refl _)]
    have e2 : (T ++ [row])[rs.length]'b = row := by
      rw [List.getElem_append_right (by omega)]
      simp [h3]
    rw [e2]
    simp only [Nat.sub_self, List.getElem_cons_zero]
    exact ⟨hlo, Nat.lt_of_lt_of_le hR.lt hg.size, by first | rfl | trivial, hkeep hR⟩
end
theorem own_neB {s : Sh} {w : World} {B n base : Nat} {e : TypeId} {sz : Nat} {α : Type} {enc : α → List Value} {v : Value} {l : List α} (h : OwnL w base e sz enc v l) (hm : MapG s w B n) : v.ownBlock ≠ some B := by
  rcases h.2 with ⟨rfl, -⟩ | ⟨g, cap, cur, rfl, -, hg, -⟩
  · simp [Value.ownBlock]
  · simp only [Value.ownBlock, ne_eq, Option.some.injEq]
    rintro rfl
    obtain ⟨D, hown, -⟩ := hm
    obtain ⟨es, ck, h1, -⟩ := hown
    rw [h1] at hg
    cases hg
/-- what the making of the table keeps -/
structure BtI (w1 : World) (s : Sh) (p : ShP) (F S G O B X0 : Nat) (sl : Value) (l : List Nat) (lo hi : Nat) (T : List (List Int)) (v : Value) (m : Nat) (W : World) : Prop where
  of : OfM w1 s p F S G O B W
  mp : MapG s W B m
  sb : Blk W X0 35 (shC s p)
  ord : OwnL W w1.heap.size 3 1 encI sl (toI l)
  olt : ∀ g, sl.ownBlock = some g → g < lo
  tab : TabM W lo hi v T
  hB : B < lo
  hX : X0 < B
  hlo : w1.heap.size ≤ lo
  hhi : lo ≤ hi ∧ hi ≤ W.heap.size
section
variable {w1 W W' : World} {s : Sh} {p : ShP} {F S G O B X0 : Nat} {sl : Value} {l : List Nat} {lo hi : Nat} {T : List (List Int)} {v : Value} {m : Nat}
theorem BtI.ext (h : BtI w1 s p F S G O B X0 sl l lo hi T v m W) (hb : Below W.heap.size W W') : BtI w1 s p F S G O B X0 sl l lo hi T v m W' :=
  ⟨h.of.ext hb, h.mp.ext hb, h.sb.ext hb, h.ord.ext hb, h.olt, h.tab.ext hb, h.hB, h.hX, h.hlo, h.hhi.1, Nat.le_trans h.hhi.2 hb.size⟩
theorem BtI.bel (h : BtI w1 s p F S G O B X0 sl l lo hi T v m W) (hb : Dr.Bel [B] W W') {m' : Nat} (hm : MapG s W' B m') : BtI w1 s p F S G O B X0 sl l lo hi T v m' W' :=
  ⟨h.of.bel hb, hm, hb.blk h.sb (by have := h.hX; simp; omega), OwnL.bel1 h.ord hb (own_neB h.ord h.mp), h.olt, h.tab.bel (.inl h.hB) hb, h.hB, h.hX, h.hlo, h.hhi.1, Nat.le_trans h.hhi.2 hb.size⟩
theorem BtI.put (h : BtI w1 s p F S G O B X0 sl l lo hi T v m W) {R : Nat} {cs : List Value} (hR : Blk W R 3 cs) (hlR : hi ≤ R) (i : Nat) (u : Value) : BtI w1 s p F S G O B X0 sl l lo hi T v m (W.setCell ⟨R, i, none⟩ u) := by
  have h1 := h.hhi.1
  have h2 := h.hB
  have h3 := h.hX
  have h4 := h.hlo
  have hbR : Dr.Bel [R] W (W.setCell ⟨R, i, none⟩ u) := Dr.Bel.store (by simp) u
  refine ⟨h.of.put (q := ⟨R, i, none⟩) (by simp; omega) (Blk.ne h.of.f hR (.inl (by decide))) (Blk.ne h.of.sb hR (.inl (by decide))) (Blk.ne h.of.g hR (.inl (by decide))) (Blk.ne h.of.o hR (.inl (by decide))) u,
    h.mp.set (by simp; omega) u, h.sb.other (by simp; omega) u, OwnL.bel1 h.ord hbR (fun e => by have := h.olt R e; omega), h.olt, h.tab.bel (.inr hlR) hbR, h.hB, h.hX, h.hlo, h.hhi.1, Nat.le_trans h.hhi.2 hbR.size⟩
theorem BtI.mono (h : BtI w1 s p F S G O B X0 sl l lo hi T v m W) {m' : Nat} (hm : m ≤ m') : BtI w1 s p F S G O B X0 sl l lo hi T v m' W :=
  ⟨h.of, h.mp.mono hm, h.sb, h.ord, h.olt, h.tab, h.hB, h.hX, h.hlo, h.hhi⟩
theorem BtI.app (h : BtI w1 s p F S G O B X0 sl l lo hi T v m W) {rs : List (Nat × Nat)} {row : List Int} {R g' cap : Nat} (hR : Blk W R 3 (row.map (Value.int .i64))) (hlR : lo ≤ R) (h2 : ∀ g, v.ownBlock = some g → g < hi) (h3 : rs.length = T.length)
    (h4 : ∀ i (h : i < rs.length) (h2 : i < T.length), lo ≤ rs[i].1 ∧ rs[i].1 < hi ∧ rs[i].2 = T[i].length ∧ Blk W rs[i].1 3 (T[i].map (Value.int .i64))) (h1 : OwnL W lo 23 1 encR v rs)
    (hn : OwnL W' lo 23 1 encR (.slice (some ⟨g', 0, none⟩) (rs.length + 1) cap) (rs ++ [(R, row.length)])) (hg : W.grownBy W' v.ownBlock) : BtI w1 s p F S G O B X0 sl l lo W'.heap.size (T ++ [row]) (.slice (some ⟨g', 0, none⟩) (rs.length + 1) cap) m W' := by
  have hbk : ∀ {A U : Nat} {cs : List Value}, Blk W A U cs → U ≠ 23 → Blk W' A U cs := fun {A U cs} hb hU => (hg.block A hb.lt (fun e => by
    have := own_ne h1 hb hU
    rw [← e] at this
    simp at this)).trans hb
  refine ⟨⟨below_grown h.of.bl h.of.bl.size hg (fun k hk => Nat.le_trans h.hlo (h1.lt hk).1), hbk h.of.f (by decide), hbk h.of.sb (by decide), hbk h.of.g (by decide), hbk h.of.o (by decide), h.of.hB, h.of.ne⟩,
    h.mp.kept hg (fun e => own_neB h1 h.mp e.symm), hbk h.sb (by decide), h.ord.kept hg ?_, h.olt, TabM.snoc hR hlR h2 h3 h4 h1 hn hg, h.hB, h.hX, h.hlo, Nat.le_trans h.hhi.1 (Nat.le_trans h.hhi.2 hg.size), Nat.le_refl _⟩
  cases hv : sl.ownBlock with
  | none => exact .inl rfl
  | some k => right; intro e; have := h.olt k hv; have := (h1.lt e.symm).1; omega
end
/-- a row of the table, up to a number -/
def rowTo (s : Sh) (t k : Nat) : List Int := tab (s.acts.length * s.acts.length) fun i => if i < k then s.cellV ⟨t, i / s.acts.length, i % s.acts.length⟩ else 0
theorem rowTo_len (s : Sh) (t k : Nat) : (rowTo s t k).length = s.acts.length * s.acts.length := tab_len _ _
theorem rowTo_zero (s : Sh) (t : Nat) : rowTo s t 0 = tab (s.acts.length * s.acts.length) fun _ => 0 := by unfold rowTo; congr 1
theorem rowTo_end (s : Sh) (t : Nat) : rowTo s t (s.acts.length * s.acts.length) = s.rowV t := by
  unfold rowTo Sh.rowV tab
  refine List.map_congr_left fun i hi => ?_
  rw [if_pos (by simpa using hi)]
theorem rowTo_hit {s : Sh} {t a b : Nat} (hb : b < s.acts.length) (hr : Sh.real ⟨t, a, b⟩ = true) : rowTo s t (a * s.acts.length + b + 1) = (rowTo s t (a * s.acts.length + b)).set (a * s.acts.length + b) (s.best ⟨t, a, b⟩) := by
  unfold rowTo
  rw [tab_set]
  congr 1
  funext i
  unfold upd
  by_cases h : i = a * s.acts.length + b
  · subst h
    rw [if_pos (by omega), if_pos rfl, Nat.mul_comm, Nat.mul_add_div (by omega), Nat.div_eq_of_lt hb, Nat.add_zero, Nat.mul_add_mod, Nat.mod_eq_of_lt hb]
    unfold Sh.cellV
    rw [if_pos hr]
  · rw [if_neg h]
    show (if _ then _ else _) = (if _ then _ else _)
    by_cases h2 : i < a * s.acts.length + b
    · rw [if_pos (by omega), if_pos h2]
    · rw [if_neg (by omega), if_neg h2]
theorem rowTo_miss {s : Sh} {t a b : Nat} (hb : b < s.acts.length) (hr : Sh.real ⟨t, a, b⟩ = false) : rowTo s t (a * s.acts.length + b + 1) = rowTo s t (a * s.acts.length + b) := by
  unfold rowTo
  congr 1
  funext i
  by_cases h : i = a * s.acts.length + b
  · subst h
    rw [if_pos (by omega), if_neg (by omega), Nat.mul_comm, Nat.mul_add_div (by omega), Nat.div_eq_of_lt hb, Nat.add_zero, Nat.mul_add_mod, Nat.mod_eq_of_lt hb]
    unfold Sh.cellV
    rw [if_neg (by rw [hr]; decide)]
  · by_cases h2 : i < a * s.acts.length + b
    · rw [if_pos (by omega), if_pos h2]
    · rw [if_neg (by omega), if_neg h2]
theorem idx_lt {n a b : Nat} (ha : a < n) (hb : b < n) : a * n + b < n * n := by
  have := Nat.mul_le_mul_right n (show a + 1 ≤ n from ha)
  rw [Nat.add_mul, Nat.one_mul] at this
  omega
theorem mk23n (n : Nat) (hn : n ≤ 1000000) (w : World) :
    (Instr.makeSlice 23 (.int .i64 (n : Int)) (.int .i64 (n : Int))).run Try.prog w = .ok (.slice (some ⟨w.heap.size, 0, none⟩) n n) (w.alloc (.cells ((tab n fun _ => 0).map (Value.int .i64)).toArray 3)) := by
  obtain ⟨i0, hi, hz0, hz1, hz2⟩ := info_parts info3
  have := run_mk Try.underlying23 hi hz0 hz1 hz2 (n : Int) (by omega) (by omega) w
  simpa using this
/-- what Best hands over -/
def BestR (w : World) (s : Sh) (v : Value) (W : World) : Prop := Below w.heap.size w W ∧
  ((s.okB = false ∧ v = .tuple #[.slice none 0 0, .int .i64 0, .slice none 0 0, .int .i64 1]) ∨
   (s.okB = true ∧ s.solve = none ∧ v = .tuple #[.slice none 0 0, .int .i64 0, .slice none 0 0, .int .i64 7]) ∨
   s.okB = true ∧ ∃ l sl tv hi, s.solve = some l ∧ OwnL W w.heap.size 3 1 encI sl (toI l) ∧ TabM W w.heap.size hi tv s.tabV ∧ v = .tuple #[sl, .int .i64 s.least, tv, .int .i64 0])
end Go.Proofs.Ytcnidhcdkbfpcaa

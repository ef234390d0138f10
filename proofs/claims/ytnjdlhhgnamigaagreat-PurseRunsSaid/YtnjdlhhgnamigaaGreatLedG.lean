/- Walk: a desk; what an act does: float, sale, giveBack, deposit, wage. -/
import Derived.Test.YtnjdlhhgnamigaaGreatLedF
namespace Go.Bs
open Go.RowKit Go.Pl
theorem flatMap_set {α : Type} {enc : α → List Value} {sz : Nat} (hen : ∀ x, (enc x).length = sz) : ∀ (l : List α) (i j : Nat) (x : α) (u : Value) (hi : i < l.length), j < sz → enc x = (enc l[i]).set j u → (l.set i x).flatMap enc = (l.flatMap enc).set (i * sz + j) u
  | [], i, j, x, u, hi, _, _ => by simp at hi
  | y :: l, 0, j, x, u, _, hj, he => by
    simp only [List.set_cons_zero, List.flatMap_cons, List.getElem_cons_zero] at he ⊢
    rw [he, Nat.zero_mul, Nat.zero_add, List.set_append_left _ _ (by rw [hen]; exact hj)]
  | y :: l, i + 1, j, x, u, hi, hj, he => by
    simp only [List.set_cons_succ, List.flatMap_cons, List.getElem_cons_succ] at he ⊢
    rw [flatMap_set hen l i j x u (by simpa using hi) hj he, List.set_append_right _ _ (by rw [hen, Nat.add_mul]; omega), hen]
    congr 2
    rw [Nat.add_mul]; omega
/-- a store into a row of the call's own -/
theorem OwnL.setAt {α : Type} {w : World} {base : Nat} {e : TypeId} {sz : Nat} {enc : α → List Value} {g n cap : Nat} {l : List α} (hen : ∀ x, (enc x).length = sz) (h : OwnL w base e sz enc (.slice (some ⟨g, 0, none⟩) n cap) l) {i j : Nat} (hi : i < l.length) (hj : j < sz) (x : α) (u : Value) (he : enc x = (enc l[i]).set j u) :
    OwnL (w.setCell ⟨g, i * sz + j, none⟩ u) base e sz enc (.slice (some ⟨g, 0, none⟩) n cap) (l.set i x) := by
  obtain ⟨h1, h2⟩ := h
  rcases h2 with ⟨e1, -⟩ | ⟨g', cap', cur, hv, hb, hg, hnc, hcm, hcs, htake⟩
  · cases e1
  · cases hv
    refine ⟨by rw [flatMap_set hen l i j x u hi hj he, List.length_set, List.length_set]; exact h1, .inr ⟨g, cap, cur.setIfInBounds (i * sz + j) u, by rw [List.length_set], hb, ?_, by rw [List.length_set]; exact hnc, hcm, by simp [hcs], ?_⟩⟩
    · simp [World.setCell, Array.getElem?_modify, hg]
    · rw [flatMap_set hen l i j x u hi hj he, Array.toList_setIfInBounds, List.take_set, List.length_set, htake]
theorem OwnL.set1 {w : World} {base : Nat} {e : TypeId} {g n cap : Nat} {l : List Int} (h : OwnL w base e 1 encI (.slice (some ⟨g, 0, none⟩) n cap) l) {i : Nat} (hi : i < l.length) (x : Int) : OwnL (w.setCell ⟨g, i, none⟩ (.int .i64 x)) base e 1 encI (.slice (some ⟨g, 0, none⟩) n cap) (l.set i x) := by
  have := OwnL.setAt encI_len h (i := i) (j := 0) hi (by omega) x (.int .i64 x) rfl
  simpa using this
/-- the block of a row of the call's own -/
theorem OwnL.blkAt {α : Type} {w : World} {base : Nat} {e : TypeId} {sz : Nat} {enc : α → List Value} {g n cap : Nat} {l : List α} (hen : ∀ x, (enc x).length = sz) (h : OwnL w base e sz enc (.slice (some ⟨g, 0, none⟩) n cap) l) :
    ∃ cs, Blk w g e cs ∧ ∀ (i j : Nat) (x : α) (u : Value), l[i]? = some x → (enc x)[j]? = some u → cs[i * sz + j]? = some u := by
  rcases h.2 with ⟨e1, -⟩ | ⟨g', cap', cur, hv, hb, hg, hnc, hcm, hcs, htake⟩
  · cases e1
  · cases hv
    refine ⟨cur.toList, by unfold Blk; simpa using hg, fun i j x u hi hu => ?_⟩
    have h1 := flatMap_get hen l i j x u hi hu
    rw [← htake] at h1
    rw [List.getElem?_take] at h1
    split at h1
    · exact h1
    · cases h1
theorem OwnL.frozen {α : Type} {w : World} {base : Nat} {e : TypeId} {sz : Nat} {enc : α → List Value} {g n cap : Nat} {l : List α} (h : OwnL w base e sz enc (.slice (some ⟨g, 0, none⟩) n cap) l) (i : Nat) : w.frozen? ⟨g, i, none⟩ = false := by
  rcases h.2 with ⟨e1, -⟩ | ⟨g', cap', cur, hv, hb, hg, -⟩
  · cases e1
  · cases hv
    simp [World.frozen?, hg]
end Go.Bs

namespace Go.Pu
/-- amounts are in range -/
structure Led.mon (l : Led) : Prop where
  o : 0 ≤ l.office ∧ l.office ≤ 1000000000000
  k : 0 ≤ l.bank ∧ l.bank ≤ 1000000000000
  i : 0 ≤ l.inn ∧ l.inn ≤ 1000000000000
  t : 0 ≤ l.out ∧ l.out ≤ 1000000000000
  w : ∀ x ∈ l.windows, 0 ≤ x ∧ x ≤ 1000000000000
  h : ∀ b ∈ l.bags, (0 ≤ b.holds ∧ b.holds ≤ 1000000000000) ∧ 0 ≤ b.written ∧ b.written ≤ 1000000000000
end Go.Pu
namespace Go.Proofs.YtnjdlhhgnamigaaGreat
open Go.RowKit Go.Bs Go.Pu Go.Pl Go.Sort

def sliceBlk (A : Option Addr) : Option Nat := A.map (·.block)
/-- a desk in memory -/
structure DeskM (base : Nat) (w : World) (P : Nat) (A : Option Addr) (n c : Nat) (B : Option Addr) (m d : Nat) (D : Option Addr) (q e : Nat) (l : Led) (a : Pu.Act) : Prop where
  blk : Blk w P 117 (dkC (.slice A n c) (.slice B m d) (.slice D q e) l a)
  hn : l.windows.length = n
  hm : l.bags.length = m
  hq : l.diffs.length = q
  n9 : n ≤ 1000
  m9 : m ≤ 1000
  q9 : q ≤ 1000
  ow : OwnL w base 3 1 encI (.slice A n c) l.windows
  ob : OwnL w base 80 6 Bag.enc (.slice B m d) l.bags
  od : OwnL w base 76 3 Dif.enc (.slice D q e) l.diffs
  pw : (Value.slice A n c).ownBlock ≠ some P
  pb : (Value.slice B m d).ownBlock ≠ some P
  pd : (Value.slice D q e).ownBlock ≠ some P
  wb : ∀ k, (Value.slice A n c).ownBlock = some k → (Value.slice B m d).ownBlock ≠ some k
  wd : ∀ k, (Value.slice A n c).ownBlock = some k → (Value.slice D q e).ownBlock ≠ some k
  bd : ∀ k, (Value.slice B m d).ownBlock = some k → (Value.slice D q e).ownBlock ≠ some k
  hP : base ≤ P
section
variable {base g : Nat} {w w' : World} {P : Nat} {A : Option Addr} {n c : Nat} {B : Option Addr} {m d : Nat} {D : Option Addr} {q e : Nat} {l : Led} {a : Pu.Act}
theorem DeskM.ext (h : DeskM base w P A n c B m d D q e l a) (hb : Below w.heap.size w w') : DeskM base w' P A n c B m d D q e l a :=
  ⟨h.blk.ext hb, h.hn, h.hm, h.hq, h.n9, h.m9, h.q9, h.ow.ext hb, h.ob.ext hb, h.od.ext hb, h.pw, h.pb, h.pd, h.wb, h.wd, h.bd, h.hP⟩
/-- a store into the desk's own block -/
theorem DeskM.put (h : DeskM base w P A n c B m d D q e l a) (i : Nat) (u : Value) (l' : Led) (a' : Pu.Act) (hc : (dkC (.slice A n c) (.slice B m d) (.slice D q e) l a).set i u = dkC (.slice A n c) (.slice B m d) (.slice D q e) l' a')
    (h1 : l'.windows = l.windows) (h2 : l'.bags = l.bags) (h3 : l'.diffs = l.diffs) : DeskM base (w.setCell ⟨P, i, none⟩ u) P A n c B m d D q e l' a' := by
  refine ⟨?_, by rw [h1]; exact h.hn, by rw [h2]; exact h.hm, by rw [h3]; exact h.hq, h.n9, h.m9, h.q9, ?_, ?_, ?_, h.pw, h.pb, h.pd, h.wb, h.wd, h.bd, h.hP⟩
  · rw [← hc]; exact h.blk.set i u
  · rw [h1]; exact h.ow.put h.pw u
  · rw [h2]; exact h.ob.put h.pb u
  · rw [h3]; exact h.od.put h.pd u
/-- a store into the windows -/
theorem DeskM.putW (h : DeskM base w P (some ⟨g, 0, none⟩) n c B m d D q e l a) {i : Nat} (hi : i < n) (x : Int) : DeskM base (w.setCell ⟨g, i, none⟩ (.int .i64 x)) P (some ⟨g, 0, none⟩) n c B m d D q e { l with windows := l.windows.set i x } a := by
  have e1 : (Value.slice (some ⟨g, 0, none⟩) n c).ownBlock = some g := rfl
  refine ⟨?_, by simp [h.hn], h.hm, h.hq, h.n9, h.m9, h.q9, h.ow.set1 (by rw [h.hn]; exact hi) x, h.ob.put (h.wb g e1) _, h.od.put (h.wd g e1) _, h.pw, h.pb, h.pd, h.wb, h.wd, h.bd, h.hP⟩
  exact h.blk.other (fun e => h.pw (by rw [e1, e])) _
/-- a store into a bag -/
theorem DeskM.putB (h : DeskM base w P A n c (some ⟨g, 0, none⟩) m d D q e l a) {i j : Nat} (hi : i < m) (hj : j < 6) (x : Bag) (u : Value) (he : Bag.enc x = (Bag.enc (l.bags[i]'(by rw [h.hm]; exact hi))).set j u) : DeskM base (w.setCell ⟨g, i * 6 + j, none⟩ u) P A n c (some ⟨g, 0, none⟩) m d D q e { l with bags := l.bags.set i x } a := by
  have e1 : (Value.slice (some ⟨g, 0, none⟩) m d).ownBlock = some g := rfl
  refine ⟨?_, h.hn, by simp [h.hm], h.hq, h.n9, h.m9, h.q9, h.ow.put (fun e => h.wb g e e1) _, OwnL.setAt bag_len h.ob (by rw [h.hm]; exact hi) hj x u he, h.od.put (h.bd g e1) _, h.pw, h.pb, h.pd, h.wb, h.wd, h.bd, h.hP⟩
  exact h.blk.other (fun e => h.pb (by rw [e1, e])) _
end

/-- how an act on a desk ends -/
def OpR (base : Nat) (w : World) (P : Nat) (l : Led) (a : Pu.Act) (r : Ending) (w' : World) : Prop :=
  Below base w w' ∧ (((doL l a).2 = 0 ∧ r = .returned (.tuple #[]) ∧ ∃ a' A n c B m d D q e, DeskM base w' P A n c B m d D q e (doL l a).1 a') ∨ ((doL l a).2 ≠ 0 ∧ r = .panicked (refused (doL l a).2)))
theorem OpR.bad {base : Nat} {w : World} {P : Nat} {l : Led} {a : Pu.Act} {w' : World} {e : Int} (hb : Below base w w') (hd : (doL l a).2 = e) (he : e ≠ 0) : OpR base w P l a (.panicked (refused e)) w' :=
  ⟨hb, .inr ⟨by rw [hd]; exact he, by rw [hd]⟩⟩
theorem OpR.good {base : Nat} {w : World} {P : Nat} {l l' : Led} {a a' : Pu.Act} {w' : World} {A : Option Addr} {n c : Nat} {B : Option Addr} {m d : Nat} {D : Option Addr} {q e : Nat} (hb : Below base w w') (hd : doL l a = (l', 0)) (hk : DeskM base w' P A n c B m d D q e l' a') : OpR base w P l a (.returned (.tuple #[])) w' :=
  ⟨hb, .inl ⟨by rw [hd], rfl, a', A, n, c, B, m, d, D, q, e, by rw [hd]; exact hk⟩⟩
section
variable {base : Nat} {w : World} {P : Nat} {A : Option Addr} {n c : Nat} {B : Option Addr} {m d : Nat} {D : Option Addr} {q e : Nat} {l : Led} {a : Pu.Act}
theorem less_P (h : DeskM base w P A n c B m d D q e l a) (i : Nat) (x : Int) (l' : Led) (hx : (dkC (.slice A n c) (.slice B m d) (.slice D q e) l a)[i]? = some (.int .i64 x)) (hc : (dkC (.slice A n c) (.slice B m d) (.slice D q e) l a).set i (.int .i64 (x - a.amount)) = dkC (.slice A n c) (.slice B m d) (.slice D q e) l' a)
    (g1 : l'.windows = l.windows) (g2 : l'.bags = l.bags) (g3 : l'.diffs = l.diffs) (h1 : 0 ≤ x ∧ x ≤ 2000000000000) (h2 : 0 ≤ a.amount ∧ a.amount ≤ 2000000000000) :
    Calls Tryz.prog 99 #[.pointer (some ⟨P, 0, none⟩), .pointer (some ⟨P, i, none⟩)] w fun r w' => Below base w w' ∧ ((a.amount ≤ x ∧ r = .returned (.tuple #[]) ∧ DeskM base w' P A n c B m d D q e l' a) ∨ (¬ a.amount ≤ x ∧ r = .panicked (refused 7))) := by
  have hPb : base ≤ w.heap.size := Nat.le_trans h.hP (Nat.le_of_lt h.blk.lt)
  by_cases hle : a.amount ≤ x
  · refine (less_t P P i x a.amount _ 117 _ w h.blk rfl h.blk hx h1 h2 hle).mono ?_
    rintro r w' ⟨rfl, W, hb, rfl⟩
    exact ⟨(hb.mono hPb).setCell h.hP _, .inl ⟨hle, rfl, (h.ext hb).put i _ l' a hc g1 g2 g3⟩⟩
  · refine (less_f P P i x a.amount _ 117 _ w h.blk rfl h.blk hx h1 h2 hle).mono ?_
    rintro r w' ⟨rfl, hb⟩
    exact ⟨hb.mono hPb, .inr ⟨hle, rfl⟩⟩
theorem more_P (h : DeskM base w P A n c B m d D q e l a) (i : Nat) (x : Int) (l' : Led) (hx : (dkC (.slice A n c) (.slice B m d) (.slice D q e) l a)[i]? = some (.int .i64 x)) (hc : (dkC (.slice A n c) (.slice B m d) (.slice D q e) l a).set i (.int .i64 (x + a.amount)) = dkC (.slice A n c) (.slice B m d) (.slice D q e) l' a)
    (g1 : l'.windows = l.windows) (g2 : l'.bags = l.bags) (g3 : l'.diffs = l.diffs) (h1 : 0 ≤ x ∧ x ≤ 2000000000000) (h2 : 0 ≤ a.amount ∧ a.amount ≤ 2000000000000) :
    Calls Tryz.prog 100 #[.pointer (some ⟨P, 0, none⟩), .pointer (some ⟨P, i, none⟩)] w fun r w' => Below base w w' ∧ ((x + a.amount ≤ 1000000000000 ∧ r = .returned (.tuple #[]) ∧ DeskM base w' P A n c B m d D q e l' a) ∨ (¬ x + a.amount ≤ 1000000000000 ∧ r = .panicked (refused 3))) := by
  have hPb : base ≤ w.heap.size := Nat.le_trans h.hP (Nat.le_of_lt h.blk.lt)
  by_cases hle : x + a.amount ≤ 1000000000000
  · refine (more_t P P i x a.amount _ 117 _ w h.blk rfl h.blk hx h1 h2 hle).mono ?_
    rintro r w' ⟨rfl, W, hb, rfl⟩
    exact ⟨(hb.mono hPb).setCell h.hP _, .inl ⟨hle, rfl, (h.ext hb).put i _ l' a hc g1 g2 g3⟩⟩
  · refine (more_f P P i x a.amount _ 117 _ w h.blk rfl h.blk hx h1 h2 hle).mono ?_
    rintro r w' ⟨rfl, hb⟩
    exact ⟨hb.mono hPb, .inr ⟨hle, rfl⟩⟩
theorem less_W {g : Nat} (h : DeskM base w P (some ⟨g, 0, none⟩) n c B m d D q e l a) (i : Nat) (hi : i < n) (x : Int) (hx : l.windows[i]? = some x) (h1 : 0 ≤ x ∧ x ≤ 2000000000000) (h2 : 0 ≤ a.amount ∧ a.amount ≤ 2000000000000) :
    Calls Tryz.prog 99 #[.pointer (some ⟨P, 0, none⟩), .pointer (some ⟨g, i, none⟩)] w fun r w' => Below base w w' ∧ ((a.amount ≤ x ∧ r = .returned (.tuple #[]) ∧ DeskM base w' P (some ⟨g, 0, none⟩) n c B m d D q e { l with windows := l.windows.set i (x - a.amount) } a) ∨ (¬ a.amount ≤ x ∧ r = .panicked (refused 7))) := by
  have hPb : base ≤ w.heap.size := Nat.le_trans h.hP (Nat.le_of_lt h.blk.lt)
  obtain ⟨cs, hg, hcs⟩ := h.ow.blkAt encI_len
  have hx' : cs[i]? = some (.int .i64 x) := by have := hcs i 0 x (.int .i64 x) hx rfl; simpa using this
  have hgb := (h.ow.block_ge rfl g rfl).1
  by_cases hle : a.amount ≤ x
  · refine (less_t P g i x a.amount _ 3 _ w h.blk rfl hg hx' h1 h2 hle).mono ?_
    rintro r w' ⟨rfl, W, hb, rfl⟩
    exact ⟨(hb.mono hPb).setCell hgb _, .inl ⟨hle, rfl, (h.ext hb).putW hi _⟩⟩
  · refine (less_f P g i x a.amount _ 3 _ w h.blk rfl hg hx' h1 h2 hle).mono ?_
    rintro r w' ⟨rfl, hb⟩
    exact ⟨hb.mono hPb, .inr ⟨hle, rfl⟩⟩
theorem more_W {g : Nat} (h : DeskM base w P (some ⟨g, 0, none⟩) n c B m d D q e l a) (i : Nat) (hi : i < n) (x : Int) (hx : l.windows[i]? = some x) (h1 : 0 ≤ x ∧ x ≤ 2000000000000) (h2 : 0 ≤ a.amount ∧ a.amount ≤ 2000000000000) :
    Calls Tryz.prog 100 #[.pointer (some ⟨P, 0, none⟩), .pointer (some ⟨g, i, none⟩)] w fun r w' => Below base w w' ∧ ((x + a.amount ≤ 1000000000000 ∧ r = .returned (.tuple #[]) ∧ DeskM base w' P (some ⟨g, 0, none⟩) n c B m d D q e { l with windows := l.windows.set i (x + a.amount) } a) ∨ (¬ x + a.amount ≤ 1000000000000 ∧ r = .panicked (refused 3))) := by
  have hPb : base ≤ w.heap.size := Nat.le_trans h.hP (Nat.le_of_lt h.blk.lt)
  obtain ⟨cs, hg, hcs⟩ := h.ow.blkAt encI_len
  have hx' : cs[i]? = some (.int .i64 x) := by have := hcs i 0 x (.int .i64 x) hx rfl; simpa using this
  have hgb := (h.ow.block_ge rfl g rfl).1
  by_cases hle : x + a.amount ≤ 1000000000000
  · refine (more_t P g i x a.amount _ 3 _ w h.blk rfl hg hx' h1 h2 hle).mono ?_
    rintro r w' ⟨rfl, W, hb, rfl⟩
    exact ⟨(hb.mono hPb).setCell hgb _, .inl ⟨hle, rfl, (h.ext hb).putW hi _⟩⟩
  · refine (more_f P g i x a.amount _ 3 _ w h.blk rfl hg hx' h1 h2 hle).mono ?_
    rintro r w' ⟨rfl, hb⟩
    exact ⟨hb.mono hPb, .inr ⟨hle, rfl⟩⟩
end
end Go.Proofs.YtnjdlhhgnamigaaGreat

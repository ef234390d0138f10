/- What lies in memory while PurseSeals goes through its acts. -/
import Derived.Test.YtnjdlhhgnamigaaSeaP
import Derived.Test.YtnjdlhhgnamigaaCoiB
namespace Go.Bs
open Go.RowKit Go.Pl
def encB (b : Bool) : List Value := [.bool b]
theorem encB_len (x : Bool) : (encB x).length = 1 := rfl
theorem encB_one (x : Bool) : ∀ u ∈ encB x, u.oneCell' = true := by intro u hu; simp [encB] at hu; subst hu; rfl
theorem Blk.grown {w w' : World} {B T : Nat} {cs : List Value} {row : Option Nat} (h : Blk w B T cs) (hg : w.grownBy w' row) (hne : some B ≠ row) : Blk w' B T cs := (hg.block B h.lt hne).trans h
theorem OwnL.rowOf {α : Type} {w : World} {base : Nat} {e : TypeId} {sz : Nat} {enc : α → List Value} {v : Value} {l : List α} (h : OwnL w base e sz enc v l) (h0 : 0 < l.length) : ∃ g cap, v = .slice (some ⟨g, 0, none⟩) l.length cap := by
  rcases h.2 with ⟨-, e2⟩ | ⟨g, cap, cur, hv, -⟩
  · omega
  · exact ⟨g, cap, hv⟩
theorem bel_grew {a b c : World} {M : List Nat} {row : Option Nat} (h : Dr.Bel M a b) (hg : b.grownBy c row) (hr : ∀ g, row = some g → a.heap.size ≤ g) : Dr.Bel M a c :=
  ⟨hg.os.trans h.os, hg.tape.trans h.tape, hg.output.trans h.output, Nat.le_trans h.size hg.size, fun k hk hm => (hg.block k (Nat.lt_of_lt_of_le hk h.size) (fun e => by have := hr k e.symm; omega)).trans (h.block k hk hm)⟩
theorem OwnL.setB {w : World} {base : Nat} {e : TypeId} {g n cap : Nat} {l : List Bool} (h : OwnL w base e 1 encB (.slice (some ⟨g, 0, none⟩) n cap) l) {i : Nat} (hi : i < l.length) (x : Bool) : OwnL (w.setCell ⟨g, i, none⟩ (.bool x)) base e 1 encB (.slice (some ⟨g, 0, none⟩) n cap) (l.set i x) := by
  have := OwnL.setAt encB_len h (i := i) (j := 0) hi (by omega) x (.bool x) rfl
  simpa using this
theorem bel1_grown {a b : World} {P : Nat} (h : Dr.Bel [P] a b) : a.grownBy b (some P) := ⟨h.os, h.tape, h.output, h.size, fun k hk hne => h.block k hk (by simp; intro e; exact hne (by rw [e]))⟩
end Go.Bs
namespace Go.Proofs.Ytnjdlhhgnamigaa
open Go.RowKit Go.Bs Go.Pu Go.Pl Go.Sort
theorem et101 : ElemT Try.prog 101 4 1 1 := ElemT.mk (z := .bool false) Try.underlying101 (by kernel_rfl) rfl
theorem LedM.kept {w w' : World} {l : Led} {A : Option Addr} {n : Nat} {B : Option Addr} {m : Nat} {D : Option Addr} {q : Nat} {row : Option Nat} (h : LedM w l A n B m D q) (hg : w.grownBy w' row) (ho : ∀ g, row = some g → LedOff g A n B m D q) : LedM w' l A n B m D q := by
  have key : ∀ {α : Type} (X : Option Addr) (sz : Nat) (enc : α → List Value) (li : List α) (k : Nat), li.length = k → Cells w X sz enc li → (∀ g, row = some g → 0 < k → X.map (·.block) ≠ some g) → Cells w' X sz enc li := by
    intro α X sz enc li k hk hc h0
    by_cases hz : 0 < k
    · exact hc.keep (fun p hp hq => by rw [World.cell?_of_block (hg.block p.block hp (fun e => h0 _ e.symm hz hq))])
    · obtain rfl : li = [] := List.length_eq_zero_iff.1 (by omega)
      exact Cells.nil
  exact ⟨h.hn, h.hm, h.hq, h.n9, h.m9, h.q9, key A 1 encI _ n h.hn h.a (fun g e => (ho g e).a), key B 6 Bag.enc _ m h.hm h.b (fun g e => (ho g e).b), key D 3 Dif.enc _ q h.hq h.d (fun g e => (ho g e).d)⟩
/-- between two acts -/
structure SeaI (W4 : World) (P : Nat) (s : Sea) (tk tc : Value) (W : World) : Prop where
  o1 : OwnL W W4.heap.size 3 1 encI tk s.tk
  o2 : OwnL W W4.heap.size 4 1 encB tc (s.l.bags.map Bag.broken)
  f0 : ∀ g, tk.ownBlock = some g → tc.ownBlock ≠ some g
  bel : Dr.Bel [P] W4 W
  box : ∃ A n c B m d D q e, Blk W P 81 [.slice A n c, .slice B m d, .int .i64 s.l.office, .int .i64 s.l.bank, .int .i64 s.l.begun, .int .i64 s.l.inn, .int .i64 s.l.out, .slice D q e] ∧ LedM W s.l A n B m D q ∧ LedOff P A n B m D q ∧
    ∀ g, tk.ownBlock = some g ∨ tc.ownBlock = some g → LedOff g A n B m D q
theorem SeaI.ext {W4 W W' : World} {P : Nat} {s : Sea} {tk tc : Value} (h : SeaI W4 P s tk tc W) (hb : Below W.heap.size W W') : SeaI W4 P s tk tc W' := by
  obtain ⟨A, n, c, B, m, d, D, q, e, h1, h2, h3, h4⟩ := h.box
  exact ⟨h.o1.ext hb, h.o2.ext hb, h.f0, h.bel.then_below (hb.mono h.bel.size), A, n, c, B, m, d, D, q, e, h1.ext hb, h2.ext hb, h3, h4⟩
/-- within an act: the act in U, the ledger behind it in N -/
structure SeaJ (W4 : World) (P U N : Nat) (pc ac nc : List Value) (nx : Led) (A : Option Addr) (n : Nat) (B : Option Addr) (m : Nat) (D : Option Addr) (q : Nat) (tl : List Int) (bl : List Bool) (tk tc : Value) (W : World) : Prop where
  o1 : OwnL W W4.heap.size 3 1 encI tk tl
  o2 : OwnL W W4.heap.size 4 1 encB tc bl
  bp : Blk W P 81 pc
  bu : Blk W U 88 ac
  bn : Blk W N 81 nc
  led : LedM W nx A n B m D q
  f0 : ∀ g, tk.ownBlock = some g → tc.ownBlock ≠ some g
  f1 : ∀ g, tk.ownBlock = some g ∨ tc.ownBlock = some g → g ≠ U ∧ g ≠ N ∧ LedOff g A n B m D q
  bel : Dr.Bel [P] W4 W
  pl : P < W4.heap.size
section
variable {W4 W W' : World} {P U N : Nat} {pc ac nc : List Value} {nx : Led} {A : Option Addr} {n : Nat} {B : Option Addr} {m : Nat} {D : Option Addr} {q : Nat} {tl : List Int} {bl : List Bool} {tk tc : Value}
theorem SeaJ.ext (h : SeaJ W4 P U N pc ac nc nx A n B m D q tl bl tk tc W) (hb : Below W.heap.size W W') : SeaJ W4 P U N pc ac nc nx A n B m D q tl bl tk tc W' :=
  ⟨h.o1.ext hb, h.o2.ext hb, h.bp.ext hb, h.bu.ext hb, h.bn.ext hb, h.led.ext hb, h.f0, h.f1, h.bel.then_below (hb.mono h.bel.size), h.pl⟩
theorem SeaJ.step1 {tk' : Value} {tl' : List Int} (h : SeaJ W4 P U N pc ac nc nx A n B m D q tl bl tk tc W) (hg : W.grownBy W' tk.ownBlock) (ho : OwnL W' W4.heap.size 3 1 encI tk' tl') (hn : ∀ g, tk'.ownBlock = some g → tk.ownBlock = some g ∨ W.heap.size ≤ g) :
    SeaJ W4 P U N pc ac nc nx A n B m D q tl' bl tk' tc W' := by
  have lt1 : ∀ g, tk.ownBlock = some g → W4.heap.size ≤ g := fun g e => (h.o1.lt e).1
  have hpl := h.pl
  have hul := h.bu.lt
  have hnl := h.bn.lt
  refine ⟨ho, h.o2.kept hg ?_, h.bp.grown hg (fun e => by have := lt1 P e.symm; omega), h.bu.grown hg (fun e => (h.f1 U (.inl e.symm)).1 rfl), h.bn.grown hg (fun e => (h.f1 N (.inl e.symm)).2.1 rfl), h.led.kept hg (fun g e => (h.f1 g (.inl e)).2.2), fun g e => ?_, fun g e => ?_, bel_grew h.bel hg lt1, h.pl⟩
  · cases hc : tc.ownBlock with
    | none => exact .inl rfl
    | some x => exact .inr (fun e => h.f0 x e.symm hc)
  · rcases hn g e with h1 | h1
    · exact h.f0 g h1
    · intro e2; have := (h.o2.lt e2).2; omega
  · rcases e with e | e
    · rcases hn g e with h1 | h1
      · exact h.f1 g (.inl h1)
      · exact ⟨by omega, by omega, h.led.off h1⟩
    · exact h.f1 g (.inr e)
theorem SeaJ.step2 {tc' : Value} {bl' : List Bool} (h : SeaJ W4 P U N pc ac nc nx A n B m D q tl bl tk tc W) (hg : W.grownBy W' tc.ownBlock) (ho : OwnL W' W4.heap.size 4 1 encB tc' bl') (hn : ∀ g, tc'.ownBlock = some g → tc.ownBlock = some g ∨ W.heap.size ≤ g) :
    SeaJ W4 P U N pc ac nc nx A n B m D q tl bl' tk tc' W' := by
  have lt1 : ∀ g, tc.ownBlock = some g → W4.heap.size ≤ g := fun g e => (h.o2.lt e).1
  have hpl := h.pl
  have hul := h.bu.lt
  have hnl := h.bn.lt
  refine ⟨h.o1.kept hg ?_, ho, h.bp.grown hg (fun e => by have := lt1 P e.symm; omega), h.bu.grown hg (fun e => (h.f1 U (.inr e.symm)).1 rfl), h.bn.grown hg (fun e => (h.f1 N (.inr e.symm)).2.1 rfl), h.led.kept hg (fun g e => (h.f1 g (.inr e)).2.2), fun g e e2 => ?_, fun g e => ?_, bel_grew h.bel hg lt1, h.pl⟩
  · cases hc : tk.ownBlock with
    | none => exact .inl rfl
    | some x => exact .inr (fun e => h.f0 x hc e.symm)
  · rcases hn g e2 with h1 | h1
    · exact h.f0 g e h1
    · have := (h.o1.lt e).2; omega
  · rcases e with e | e
    · exact h.f1 g (.inl e)
    · rcases hn g e with h1 | h1
      · exact h.f1 g (.inr h1)
      · exact ⟨by omega, by omega, h.led.off h1⟩
theorem SeaJ.done {c d e : Nat} (h : SeaJ W4 P U N pc ac nc nx A n B m D q tl bl tk tc W) (hoP : LedOff P A n B m D q) (hbf : Dr.Bel [P] W W') (hP : Blk W' P 81 [.slice A n c, .slice B m d, .int .i64 nx.office, .int .i64 nx.bank, .int .i64 nx.begun, .int .i64 nx.inn, .int .i64 nx.out, .slice D q e]) (hbl : nx.bags.map Bag.broken = bl) :
    SeaI W4 P ⟨nx, tl⟩ tk tc W' := by
  have hpl := h.pl
  have hg := bel1_grown hbf
  refine ⟨h.o1.kept hg ?_, ?_, h.f0, h.bel.trans hbf, A, n, c, B, m, d, D, q, e, hP, h.led.bel1 hoP hbf, hoP, fun g hg => (h.f1 g hg).2.2⟩
  · cases hc : tk.ownBlock with
    | none => exact .inl rfl
    | some x => exact .inr (fun e => by cases e; have := (h.o1.lt hc).1; omega)
  · rw [hbl]
    refine h.o2.kept hg ?_
    cases hc : tc.ownBlock with
    | none => exact .inl rfl
    | some x => exact .inr (fun e => by cases e; have := (h.o2.lt hc).1; omega)
end
theorem boolsL_put (m : Nat) (f : Nat → Bool) (k : Nat) (v : Bool) : (boolsL m f).set k (.bool v) = boolsL m (fun i => if i = k then v else f i) := by
  unfold boolsL
  apply List.ext_getElem?
  intro i
  by_cases hk : k = i
  · subst hk
    by_cases hl : k < m
    · rw [List.getElem?_set_self (by simpa using hl)]; simp [hl]
    · rw [List.getElem?_eq_none (by simp; omega), List.getElem?_eq_none (by simp; omega)]
  · rw [List.getElem?_set_ne hk]
    by_cases hl : i < m
    · simp [hl, Ne.symm hk]
    · rw [List.getElem?_eq_none (by simp; omega), List.getElem?_eq_none (by simp; omega)]
theorem boolsL_congr {m : Nat} {f g : Nat → Bool} (h : ∀ i, i < m → f i = g i) : boolsL m f = boolsL m g := by
  unfold boolsL
  exact List.map_congr_left (fun i hi => by rw [h i (List.mem_range.1 hi)])
/-- which bags the first j differences call broken -/
def brkF (l : Led) (j i : Nat) : Bool := seenB l.diffs j i && (l.bags.getD i default).broken
theorem brkF_zero (l : Led) (i : Nat) : brkF l 0 i = false := by simp [brkF, seenB]
theorem brkF_step {l : Led} (h : l.Ok) {j : Nat} (hj : j < l.diffs.length) (bi : Nat) (hb : l.diffs[j].bag = bi) (m : Nat) : (boolsL m (brkF l j)).set bi (.bool l.diffs[j].broken) = boolsL m (brkF l (j + 1)) := by
  rw [boolsL_put]
  refine boolsL_congr (fun i _ => ?_)
  have hk := (h.d l.diffs[j] (List.getElem_mem hj)).k
  rw [hb, Int.toNat_natCast] at hk
  unfold brkF
  rw [seen_succ hj, hb]
  by_cases hi : i = bi
  · subst hi; simp [hk]
  · have : ((bi : Int) == (i : Int)) = false := by simp; omega
    rw [if_neg hi, this, Bool.or_false]
theorem brkF_open {l : Led} (h : l.Ok) {i : Nat} (hi : i < l.bags.length) (ho : l.bags[i].opened = true) (hb : l.bags[i].broken = true) : brkF l l.diffs.length i = true := by
  obtain ⟨d, hd, he⟩ := ((h.b i hi).e ho).2 hb
  have hg : l.bags.getD i default = l.bags[i] := by simp [hi]
  unfold brkF seenB
  rw [hg, hb, Bool.and_true, List.take_of_length_le (Nat.le_refl _), List.any_eq_true]
  exact ⟨d, hd, by simp [he]⟩
/-- what was taken from the first j bags, of those that are open -/
def opK (s : Sea) (j : Nat) : Int := opT (s.l.bags.take j) (s.tk.take j)
theorem opK_succ {s : Sea} {j : Nat} (h1 : j < s.l.bags.length) (h2 : j < s.tk.length) : opK s (j + 1) = opK s j + (if s.l.bags[j].opened then s.tk[j] else 0) := by
  unfold opK opT
  rw [List.take_succ_eq_append_getElem h1, List.take_succ_eq_append_getElem h2, List.zipWith_append (by simp; omega), isum_append]
  simp [isum]
theorem opK_bd {s : Sea} {K : Nat} (h : ∀ t ∈ s.tk, 0 ≤ t ∧ t ≤ (K : Int) * 1000000000000) (hK : K ≤ 60) (hl : s.tk.length = s.l.bags.length) : ∀ j, j ≤ s.l.bags.length → 0 ≤ opK s j ∧ opK s j ≤ (j : Int) * 60000000000000
  | 0, _ => by simp [opK, opT, isum]
  | j + 1, hj => by
    have ih := opK_bd h hK hl j (by omega)
    rw [opK_succ (by omega) (by omega)]
    have ht := h s.tk[j] (List.getElem_mem (by omega))
    have e : ((j + 1 : Nat) : Int) * 60000000000000 = (j : Int) * 60000000000000 + 60000000000000 := by omega
    rw [e]
    split <;> omega
theorem opK_all {s : Sea} (hl : s.tk.length = s.l.bags.length) : opK s s.l.bags.length = opT s.l.bags s.tk := by
  unfold opK
  rw [List.take_of_length_le (Nat.le_refl _), List.take_of_length_le (by omega)]
theorem miss_in {l : Led} (h : l.Ok) {n k : Nat} (hn : l.windows.length = n) (hk : k < n) : l.missP k = ((l.missing k).1, (l.missing k).2, 0) := by
  unfold Led.missP
  rw [ok_iff.2 h, hn, if_pos rfl, if_pos (by omega)]
theorem beginL_ok {wins : List Int} {o : Int} (h : (beginL wins o).2 = 0) : (beginL wins o).1.Ok ∧ (beginL wins o).1.bags = [] ∧ (beginL wins o).1.diffs = [] ∧ (beginL wins o).1.windows = wins := by
  unfold beginL at *
  simp only at *
  split at h
  · cases h
  · rename_i h1
    split at h
    · cases h
    · rename_i h2
      rw [if_neg h1, if_neg h2]
      simp only [Bool.not_eq_true', Bool.and_eq_false_iff, not_or, Bool.not_eq_false, decide_eq_true_eq, monB, List.all_eq_true] at h1 h2
      refine ⟨⟨h1.1.1, h1.1.2, by simp, h1.2.1, h1.2.2, by simp, h2, by simp, by simp, fun i hi => by simp at hi, fun d hd => by simp at hd, rfl, ?_⟩, rfl, rfl, rfl⟩
      show Led.total _ = Led.total _ + 0 - 0
      simp [Led.total]
end Go.Proofs.Ytnjdlhhgnamigaa

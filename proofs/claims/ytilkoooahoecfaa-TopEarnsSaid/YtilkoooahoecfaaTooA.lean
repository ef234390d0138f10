/- Tools: stores of whole structs, ranges over functions, sets of blocks. -/
import Derived.RangeFuncNested
import Derived.RangeFuncBound
import Derived.RangeFuncCalls
import Derived.RangeFuncLeaves
import Derived.OwnWalkIn
import Derived.Test.YtilkoooahoecfaaGround
/- append as an operation of its own (for regions that draw); two rows of the call's own that lie apart; some new rows of zeros. -/
namespace Go.Bs
open Go.RowKit Go.Sort Go.Pl Go.Dr

theorem wp_app1 {P : Program} {o : Oper} {a : Act} {K : Act → World → Prop} {Q : Exit → Act → World → Prop} {w : World} {α : Type} (enc : α → List Value) (t e : TypeId) (sz bytes : Nat) (hT : ElemT P t e sz bytes) (hsz : 0 < sz) (hby : bytes ≤ 1000)
    (hen : ∀ x, (enc x).length = sz) (h1c : ∀ x, ∀ u ∈ enc x, u.oneCell' = true) (s x : Operand)
    (ho : o.op = .call { callee := .builtin .append, args := #[s, x], argTypes := #[t, t] }) (base : Nat) (v : Value) (l : List α) (hs : a.eval s = v) (hown : OwnL w base e sz enc v l)
    (g : Nat) (hx : a.eval x = .slice (some ⟨g, 0, none⟩) 1 1) (y : α) (hc : ∀ j u, (enc y)[j]? = some u → w.cell? ⟨g, j, none⟩ = some u) (hlen : l.length ≤ 1000000) (hbase : base ≤ w.heap.size)
    (h : ∀ g' cap w', OwnL w' base e sz enc (.slice (some ⟨g', 0, none⟩) (l.length + 1) cap) (l ++ [y]) → Below base w w' → w.grownBy w' v.ownBlock → (v.ownBlock = some g' ∨ g' = w.heap.size) → K (a.put o.dst (.slice (some ⟨g', 0, none⟩) (l.length + 1) cap)) w') :
    o.wp P a w K Q := by
  obtain ⟨i, z, ht, hi, hz, hs1, hb1, hz1⟩ := hT
  have hmul : (l.length + 1) * bytes ≤ 1000001 * 1000 := Nat.mul_le_mul (by omega) hby
  refine wp_append_lies w s x t ho base e i z sz bytes ht hi hz hs1 hb1 hz1 hsz v l.length (l.flatMap enc) hs hown ⟨g, 0, none⟩ 1 1 (enc y) hx (by rw [hen]; omega) ?_ (h1c y) (by omega) (by unfold maxLen; omega) (by omega) hbase w.heap.size rfl ?_
  · intro j u hj
    have := hc j u hj
    unfold Addr.add
    split
    · rename_i h0; subst h0; exact this
    · simpa using this
  · intro g' cap w' hown' hgrow hat hlt
    refine h g' cap w' ?_ ?_ hgrow hat
    · unfold OwnL
      rw [List.length_append, List.flatMap_append]
      simpa using hown'
    · exact (Below.refl base w).grown hgrow hbase (fun k hk => (hown.lt hk).1)

/-- Two rows of the call's own that lie apart; gv, gu: the blocks that are written, where there are any. -/
structure Two (base T : Nat) (W : World) (gv gu : Nat) (v u : Value) (l r : List Int) : Prop where
  ov : OwnL W base T 1 encI v l
  ou : OwnL W base T 1 encI u r
  ne : v.ownBlock = none ∨ u.ownBlock = none ∨ v.ownBlock ≠ u.ownBlock
  hv : ∀ k, v.ownBlock = some k → k = gv
  hu : ∀ k, u.ownBlock = some k → k = gu
section
variable {base T gv gu : Nat} {W W' : World} {v u : Value} {l r : List Int}
theorem Two.alloc (h : Two base T W gv gu v u l r) (o : Obj) : Two base T (W.alloc o) gv gu v u l r := ⟨h.ov.alloc o, h.ou.alloc o, h.ne, h.hv, h.hu⟩
theorem Two.ext (h : Two base T W gv gu v u l r) (hb : Below W.heap.size W W') : Two base T W' gv gu v u l r := ⟨h.ov.ext hb, h.ou.ext hb, h.ne, h.hv, h.hu⟩
theorem Two.swap (h : Two base T W gv gu v u l r) : Two base T W gu gv u v r l := ⟨h.ou, h.ov, h.ne.elim (fun h => .inr (.inl h)) (fun h => h.elim .inl (fun h => .inr (.inr (Ne.symm h)))), h.hu, h.hv⟩
/-- with the blocks known -/
theorem Two.of (h1 : OwnL W base T 1 encI v l) (h2 : OwnL W base T 1 encI u r) (h3 : v.ownBlock = none ∨ u.ownBlock = none ∨ v.ownBlock ≠ u.ownBlock) : Two base T W (v.ownBlock.getD W.heap.size) (u.ownBlock.getD W.heap.size) v u l r :=
  ⟨h1, h2, h3, fun k hk => by rw [hk]; rfl, fun k hk => by rw [hk]; rfl⟩
theorem getD_own {k B : Nat} (h1 : OwnL W base T 1 encI v l) (hB : B < base) (hbase : base ≤ W.heap.size) (hk : k = v.ownBlock.getD W.heap.size) : B ≠ k := by
  subst hk
  cases hv : v.ownBlock with
  | none => simp; omega
  | some g => have := (h1.lt hv).1; simp; omega
theorem getD_new {k : Nat} (h1 : OwnL W base T 1 encI v l) (hk : k = v.ownBlock.getD W.heap.size) : base ≤ W.heap.size → base ≤ k := by
  subst hk
  intro hb
  cases hv : v.ownBlock with
  | none => exact hb
  | some g => exact (h1.lt hv).1
theorem getD_ne {k : Nat} {w0 : World} (h1 : OwnL w0 base T 1 encI v l) (hW : w0.heap.size < W.heap.size) (hk : k = v.ownBlock.getD W.heap.size) : w0.heap.size ≠ k := by
  subst hk
  cases hv : v.ownBlock with
  | none => simp; omega
  | some g => have := (h1.lt hv).2; simp; omega
/-- the first one grows -/
theorem Two.app {g q c : Nat} {l' : List Int} (h : Two base T W gv gu v u l r) (ho : OwnL W' base T 1 encI (.slice (some ⟨g, 0, none⟩) q c) l') (hg : W.grownBy W' v.ownBlock) (hat : v.ownBlock = some g ∨ g = W.heap.size) :
    Two base T W' g gu (.slice (some ⟨g, 0, none⟩) q c) u l' r := by
  refine ⟨ho, h.ou.kept hg ?_, ?_, fun k hk => by simp [Value.ownBlock] at hk; exact hk.symm, h.hu⟩
  · rcases h.ne with h1 | h1 | h1
    · cases hx : u.ownBlock
      · exact .inl rfl
      · exact .inr (by rw [h1]; simp)
    · exact .inl h1
    · exact .inr (Ne.symm h1)
  · cases hx : u.ownBlock with
    | none => exact .inr (.inl rfl)
    | some b =>
      refine .inr (.inr ?_)
      have hb := (h.ou.lt hx).2
      show some g ≠ some b
      rcases hat with h2 | h2
      · rcases h.ne with h1 | h1 | h1
        · rw [h1] at h2; cases h2
        · rw [h1] at hx; cases hx
        · rw [← hx, ← h2]; exact h1
      · intro e; cases e; omega
theorem bel_grown {M : List Nat} {gv : Nat} (hg : W.grownBy W' v.ownBlock) (hv : ∀ k, v.ownBlock = some k → k = gv) (hM : gv ∈ M) : Bel M W W' :=
  ⟨hg.os, hg.tape, hg.output, hg.size, fun k hk hm => hg.block k hk (fun e => hm (by rw [hv k e.symm]; exact hM))⟩
end

/-- some new rows of zeros, each of n numbers -/
structure Zs (W0 W : World) (n T : Nat) (gs : List Nat) : Prop where
  nd : gs.Nodup
  at_ : ∀ g ∈ gs, W0.heap.size ≤ g ∧ IArr W g T (tab n fun _ => 0)
section
variable {W0 W W' : World} {n T : Nat} {gs : List Nat}
theorem Zs.nil (W0 W : World) (n T : Nat) : Zs W0 W n T [] := ⟨List.nodup_nil, fun g hg => by simp at hg⟩
theorem Zs.mk1 (h : Zs W0 W n T gs) (hs : W0.heap.size ≤ W.heap.size) : Zs W0 (W.alloc (.cells ((tab n fun _ => 0).map (Value.int .i64)).toArray T)) n T (W.heap.size :: gs) :=
  ⟨List.nodup_cons.2 ⟨fun hm => by have := (h.at_ _ hm).2; exact absurd (Blk.lt this) (by omega), h.nd⟩, fun g hg => by
    rcases List.mem_cons.1 hg with rfl | hg
    · exact ⟨hs, Blk.new W T _⟩
    · exact ⟨(h.at_ g hg).1, Blk.alloc (h.at_ g hg).2 _⟩⟩
theorem Zs.put (h : Zs W0 W n T gs) {p : Addr} (hp : p.block < W0.heap.size) (u : Value) : Zs W0 (W.setCell p u) n T gs :=
  ⟨h.nd, fun g hg => ⟨(h.at_ g hg).1, IArr.other (h.at_ g hg).2 (by have := (h.at_ g hg).1; omega) u⟩⟩
end

/-- a store of a whole struct: cell by cell -/
def puts (w : World) (B : Nat) : Nat → List Value → World
  | _, [] => w
  | i, v :: r => puts (w.setCell ⟨B, i, none⟩ v) B (i + 1) r
theorem Blk.puts {B T : Nat} : ∀ (r : List Value) (i : Nat) (cs : List Value) (w : World), Blk w B T cs → i + r.length = cs.length → Blk (Go.Bs.puts w B i r) B T (cs.take i ++ r)
  | [], i, cs, w, h, hl => by simpa [Go.Bs.puts, List.take_of_length_le (show cs.length ≤ i by simp at hl; omega)] using h
  | v :: r, i, cs, w, h, hl => by
    simp at hl
    have := Blk.puts r (i + 1) (cs.set i v) _ (h.set i v) (by simp; omega)
    have e : (cs.set i v).take (i + 1) ++ r = cs.take i ++ v :: r := by
      rw [List.take_succ_eq_append_getElem (by simp; omega), List.take_set_of_le (Nat.le_refl _)]
      simp
    rw [e] at this
    exact this
theorem Blk.put_all {B T : Nat} {cs r : List Value} {w : World} (h : Blk w B T cs) (hl : r.length = cs.length) : Blk (Go.Bs.puts w B 0 r) B T r := by
  have := Blk.puts r 0 cs w h (by omega)
  simpa using this
theorem bel_puts {B : Nat} : ∀ (r : List Value) (i : Nat) (w : World), Bel [B] w (puts w B i r)
  | [], _, w => Bel.refl _ _
  | v :: r, i, w => (Bel.store (p := ⟨B, i, none⟩) (by simp) v).trans (bel_puts r (i + 1) _)
theorem Blk.put_eq {B T : Nat} {cs : List Value} {w W : World} (h : Blk w B T cs) (r : List Value) (e : Go.Bs.puts w B 0 r = W) (hl : r.length = cs.length) : Blk W B T r := e ▸ h.put_all hl
theorem bel_put_eq {B : Nat} {w W : World} (r : List Value) (e : puts w B 0 r = W) : Bel [B] w W := e ▸ bel_puts r 0 w
end Go.Bs

/- A range over a function whose rounds come in one known order: the body is asked only for what comes next. No early leave. -/
namespace Go.Bs
open Go.RowKit
variable {F : Fence} {n : Nat} {P : Program} {w : World}

/-- what an iterator promises, when each round is asked only for the element that comes next -/
def SeqNext {α : Type} (F : Fence) (n : Nat) (P : Program) (gf : Nat) (lb : Array Value) (encs : α → Array Value) (Kp : World → World → Prop) (S : List α → Prop) (Nx : List α → α → Prop) (w : World) : Prop :=
  ∀ (l : Nat) (J : List α → World → Prop) (W : World), Below w.heap.size w W →
    (∀ pre x W1, J pre W1 → Nx pre x → YieldAt F (n - 1) P l (encs x) W1 fun e W' => e = .returned (.bool true) ∧ J (pre ++ [x]) W' ∧ Kp W1 W') → J [] W →
    CallsIn F n P gf (#[.func (.yield l) #[] #[]] ++ lb) W fun e W' => (∃ v, e = .returned v) ∧ ∃ xs, S xs ∧ J xs W'

/-- the loop's record, in a state -/
def lrec (fn : FuncId) (tmps : Array Value) (ps : Array Tmp) (assign body : Code) (B : Nat) (st : LoopState) : Loop :=
  { state := st, pending := none, fn := fn, tmps := tmps, params := ps, assign := assign, body := body, defers := B }

/-- how a round ends -/
def nextPost {α : Type} (B : Nat) (Kp : World → World → Prop) (I : List α → World → Prop) (xs : List α) (W : World) : Exit → Act → World → Prop
  | .normal, _, W' => KeepsFrom B W W' ∧ Kp W W' ∧ I xs W'
  | _, _, _ => False

theorem range_next {α : Type} {g : Operand} {ps : Array Tmp} {assign body : Code} {Q : Exit → Act → World → Prop} {a : Act}
    (hro : F.round = none) (h1 : 1 ≤ n) {gf : Nat} {lb : Array Value} (hg : a.eval g = .func (.func gf) #[] lb) (hFg : F.fn gf) (eg : ∀ args w, (callFunc gf args).run P w = .ok (.enter gf args) w)
    {encs : α → Array Value} {Kp : World → World → Prop} {S : List α → Prop} {Nx : List α → α → Prop} (hseq : SeqNext F (n - 1) P gf lb encs Kp S Nx w)
    (hKt : ∀ {A B C : World}, Kp A B → Kp B C → Kp A C) (hKb : ∀ (W : World) (l : Nat) (o o' : Obj), w.heap.size ≤ l → W.heap[l]? = some o → o.isCells = false → o.isWalk = false → Kp W (W.putObj l o')) (hps : ∀ x, (encs x).size = ps.size)
    (I : List α → World → Prop) (hI : OwnFrom w.heap.size I) (h0 : I [] w) (Ax : α → Act → World → Prop) (hAx : ∀ x a', OwnFrom w.heap.size (fun (_ : Unit) W => Ax x a' W))
    (hassign : ∀ (l : Nat) (pre : List α) (x : α) (W : World) (K : Act → World → Prop), I pre W → (∀ a' W', KeepsFrom w.heap.size W W' → Kp W W' → I pre W' → Ax x a' W' → K a' W') →
      assign.wpIn (F.inRound l) (n - 1 - 1) P (Exit.then K (fun _ _ _ => False)) { tmps := (ps.zip (encs x)).foldl (fun t (p, v) => t.setIfInBounds p v) a.tmps, defers := [] } W)
    (hbody : ∀ (l : Nat) (pre : List α) (x : α) (a' : Act) (W : World), w.heap.size ≤ l → I pre W → Ax x a' W → Nx pre x → body.wpIn (F.inRound l) (n - 1 - 1) P (nextPost w.heap.size Kp I (pre ++ [x]) W) a' W)
    (hdone : ∀ (D : Nat) (xs : List α) (W : World), w.heap.size ≤ D → S xs → I xs W → W.heap[D]? = some (.deferred (some [])) → Q .normal { a with defers := { target := .collected D, args := #[] } :: a.defers } W) :
    (Code.rangeFunc g ps assign body).wpIn F n P Q a w := by
  refine wpIn_rangeFunc fun fn hfn => ?_
  rw [hro]
  -- the two blocks that the loop lays: D, for deferred calls; L, its record
  have eD : (w.alloc (.deferred (some []))).heap.size = w.heap.size + 1 := by simp
  generalize hL : w.heap.size + 1 = L at eD
  have hBL : w.heap.size ≤ L := by omega
  have hDL : w.heap.size ≠ L := by omega
  generalize hR : lrec fn a.tmps ps assign body w.heap.size = R
  have hRp : ∀ st, (R st).params = ps := fun st => by rw [← hR]; rfl
  have hRs : ∀ st, (R st).state = st := fun st => by rw [← hR]; rfl
  have hRu : ∀ st st', { R st with state := st', pending := none } = R st' := fun st st' => by rw [← hR]; rfl
  have hRb : ∀ st st', { R st with state := st' } = R st' := fun st st' => by rw [← hR]; rfl
  let W1 := (w.alloc (.deferred (some []))).alloc (.loop (R .ready))
  have l1 : W1.heap[L]? = some (.loop (R .ready)) := by rw [← eD]; exact World.alloc_heap_new _ _
  have d1 : W1.heap[w.heap.size]? = some (.deferred (some [])) := (Below.heap_alloc _ _ _ (by simp)).trans (World.alloc_heap_new w _)
  have i1 : I [] W1 := hI.alloc _ (hI.alloc _ h0)
  have b1 : Below w.heap.size w W1 := ((Below.refl _ w).alloc (Nat.le_refl _) _).alloc (by rw [eD]; omega) _
  -- what holds between the rounds
  let J : List α → World → Prop := fun pre W => I pre W ∧ W.heap[L]? = some (.loop (R .ready)) ∧ W.heap[w.heap.size]? = some (.deferred (some []))
  have round : ∀ pre x W, J pre W → Nx pre x → YieldAt F (n - 1 - 1) P L (encs x) W fun e W' => e = .returned (.bool true) ∧ J (pre ++ [x]) W' ∧ Kp W W' := by
    intro pre x W hJ hx
    obtain ⟨hi, hl, hd⟩ := hJ
    have hy := run_yield (P := P) (args := encs x) hl (by rw [hRp]; exact hps x)
    rw [← hR] at hy
    refine ⟨fn, _, assign, body, hy, roundIn_of_wpIn hfn (hassign _ pre x W _ hi fun a' V kf kp hi' hax => ?_)⟩
    have hl' := kf.same _ _ hBL hl rfl
    have hd' := kf.same _ _ (Nat.le_refl _) hd rfl
    have hlt : L < V.heap.size := (Array.getElem?_eq_some_iff.1 hl').1
    refine ⟨_, run_beginRound hl' (hRs _), ?_⟩
    rw [hRb]
    have lb2 : (V.putObj L (.loop (R .busy))).heap[L]? = some (.loop (R .busy)) := World.putObj_heap_same hlt
    have db2 : (V.putObj L (.loop (R .busy))).heap[w.heap.size]? = some (.deferred (some [])) := (World.putObj_heap_other hDL).trans hd'
    have kp2 := kp
    have kpB := hKb V L _ (.loop (R .busy)) hBL hl' rfl rfl
    refine wpIn_mono (hbody L pre x a' _ hBL (hI.putObj _ hi' hBL hl' rfl) ((hAx x a').putObj (s := ()) _ hax hBL hl' rfl) hx) ?_
    intro e a3 W3 hp
    cases e with
    | normal =>
      obtain ⟨kf3, kp3, hi3⟩ := hp
      have l3 := kf3.same _ _ hBL lb2 rfl
      have d3 := kf3.same _ _ (Nat.le_refl _) db2 rfl
      have hlt3 : L < W3.heap.size := (Array.getElem?_eq_some_iff.1 l3).1
      have he := run_endRound (P := P) none l3
      rw [show (if (none : Option Code).isNone then LoopState.ready else LoopState.done) = LoopState.ready from rfl, hRu] at he
      exact ⟨_, _, he, rfl, ⟨hI.putObj _ hi3 hBL l3 rfl, World.putObj_heap_same hlt3, (World.putObj_heap_other hDL).trans d3⟩, hKt kp2 (hKt kpB (hKt kp3 (hKb W3 L _ _ hBL l3 rfl rfl)))⟩
    | ret => exact hp.elim
    | exit id => exact hp.elim
    | goto t => exact hp.elim
    | panic ch => exact hp.elim
    | outgrown => exact hp.elim
  refine ⟨L, [{ target := .collected w.heap.size, args := #[] }], W1, { target := .fn (.func gf) lb, args := #[.func (.yield L) #[] #[]] }, W1, gf, #[.func (.yield L) #[] #[]] ++ lb, W1, ?_, ?_, ?_, ?_, fun _ => h1, ?_⟩
  · rw [run_enterLoop_outer, hL]
    show _ = Result.ok _ ((w.alloc (.deferred (some []))).alloc (.loop (R .ready)))
    rw [← hR]; rfl
  · simp only [resolve, hg]
    simp [go_sem]
  · intro f' hf'; simp [Target.leads] at hf'; subst hf'; exact hFg
  · simp [invoke, go_sem, eg]
  · refine (hseq L J W1 b1 round ⟨i1, l1, d1⟩).mono ?_
    rintro e W2 ⟨⟨v, rfl⟩, xs, hS, hi, hl, hd⟩
    refine ⟨none, _, ?_, hdone _ xs _ (Nat.le_refl _) hS (hI.putObj (.loop (R .exhausted)) hi hBL hl rfl) ((World.putObj_heap_other hDL).trans hd)⟩
    have he := run_endLoop (P := P) hl (by rw [hRs]; simp)
    have hp : (R .ready).pending = none := by rw [← hR]; rfl
    rw [hp, hRu] at he
    exact he
end Go.Bs

/- The plan of a region that draws its order, with a set of blocks. (Printed by mk_any.py.) -/
namespace Go.Dr.Any
open Go.Dr
open Go.RowKit Go.Bs Go.Pl
/-- a set of blocks -/
structure BSet where
  has : Nat → Prop
instance : Membership Nat BSet := ⟨fun M k => M.has k⟩
/-- the blocks from n on -/
def from_ (n : Nat) : BSet := ⟨fun k => n ≤ k⟩
theorem mem_from {n k : Nat} : k ∈ from_ n ↔ n ≤ k := Iff.rfl
section
variable {P : Program} {ops : Array Oper} {Q : Exit → Act → World → Prop} {md : Region.Mode} {n : Nat}
/-- What lay in w lies unturned in w', but for the blocks of M. -/
structure Bel (M : BSet) (w w' : World) : Prop where
  os : w'.os = w.os
  tape : w'.tape = w.tape
  output : w'.output = w.output
  size : w.heap.size ≤ w'.heap.size
  block : ∀ k, k < w.heap.size → k ∉ M → w'.heap[k]? = w.heap[k]?
theorem Bel.refl (M : BSet) (w : World) : Bel M w w := ⟨rfl, rfl, rfl, Nat.le_refl _, fun _ _ _ => rfl⟩
theorem Bel.trans {M : BSet} {a b c : World} (h : Bel M a b) (k : Bel M b c) : Bel M a c :=
  ⟨k.os.trans h.os, k.tape.trans h.tape, k.output.trans h.output, Nat.le_trans h.size k.size, fun i hi hm => (k.block i (Nat.lt_of_lt_of_le hi h.size) hm).trans (h.block i hi hm)⟩
theorem Bel.of {M : BSet} {w w' : World} (h : Below w.heap.size w w') : Bel M w w' := ⟨h.os, h.tape, h.output, h.size, fun k hk _ => h.block k hk⟩
theorem Bel.store {M : BSet} {w : World} {p : Addr} (hp : p.block ∈ M) (u : Value) : Bel M w (w.setCell p u) :=
  ⟨rfl, rfl, rfl, by simp [World.setCell], fun k _ hm => Below.heap_setCell _ _ _ _ (fun e => hm (e ▸ hp))⟩
open Classical in
noncomputable def regrow (w : World) (M : BSet) (p : Reg) : World := { w with drawn := p.d, heap := (w.heap.mapIdx fun i o => if i ∈ M then p.f i else o) ++ p.os }
theorem bel_regrow (w : World) (M : BSet) (p : Reg) : Bel M w (regrow w M p) := by
  refine ⟨rfl, rfl, rfl, by simp [regrow], fun k hk hm => ?_⟩
  simp only [regrow]
  rw [Array.getElem?_append_left (by simpa using hk), Array.getElem?_mapIdx]
  cases w.heap[k]? <;> simp [hm]
theorem regrow_of_bel {M : BSet} {w w' : World} (h : Bel M w w') : ∃ p : Reg, w' = regrow w M p := by
  refine ⟨⟨w'.drawn, w'.heap.extract w.heap.size w'.heap.size, fun i => w'.heap.getD i default⟩, ?_⟩
  obtain ⟨heap', tape', drawn', os', output'⟩ := w'
  have e1 : os' = w.os := h.os
  have e2 : tape' = w.tape := h.tape
  have e3 : output' = w.output := h.output
  have hs : w.heap.size ≤ heap'.size := h.size
  have hb : ∀ k, k < w.heap.size → k ∉ M → heap'[k]? = w.heap[k]? := h.block
  subst e1 e2 e3
  simp only [regrow]
  congr 1
  apply Array.ext_getElem?
  intro k
  by_cases hk : k < w.heap.size
  · rw [Array.getElem?_append_left (by simpa using hk), Array.getElem?_mapIdx]
    have hk' : k < heap'.size := by omega
    by_cases hm : k ∈ M
    · rw [Array.getElem?_eq_getElem hk, Array.getElem?_eq_getElem hk']
      simp [hm, hk']
    · rw [hb k hk hm]
      cases w.heap[k]? <;> simp [hm]
  · rw [Array.getElem?_append_right (by simp; omega), Array.getElem?_extract]
    by_cases hk2 : k < heap'.size
    · simp only [Array.size_mapIdx]
      rw [if_pos (by omega)]; congr 1; omega
    · simp only [Array.size_mapIdx]
      rw [if_neg (by omega), Array.getElem?_eq_none (by omega)]
variable {M : BSet}
/-- All worlds in which what lay in w, but for M, lies unturned. -/
abbrev Cls (M : BSet) (w : World) : World → Prop := fun w' => ∃ p : Reg, w' = regrow w M p
theorem below_cls {w w' : World} (h : Bel M w w') : Cls M w w' := regrow_of_bel h

/-- The heads (below n), whichever comes up; behind the last of them L. -/
def wpX (P : Program) (md : Region.Mode) (ops : Array Oper) (Q : Exit → Act → World → Prop) (n : Nat) (M : BSet) (L : Array Bool → Act → World → Prop) : Nat → Array Bool → Act → World → Prop
  | 0, listed, a, w => L listed a w
  | f + 1, listed, a, w => Region.ready md ops listed ≠ [] ∧ ∀ i ∈ Region.ready md ops listed, i < n ∧ wpOp P ops Q i (fun a' w' => Bel M w w' ∧ wpX P md ops Q n M L f (listed.setIfInBounds i true) a' w') a w

theorem wpAny_of_X {Q' : Exit → Act → World → Prop} (hq : ∀ e a w, Q e a w → Q' e a w) {g : Nat} {L : Array Bool → Act → World → Prop} (hL : ∀ listed a w, L listed a w → wpAny P md ops Q' g listed a w) :
    ∀ (f : Nat) (listed : Array Bool) (a : Act) (w : World), wpX P md ops Q n M L f listed a w → wpAny P md ops Q' (f + g) listed a w
  | 0, listed, a, w, h => by rw [Nat.zero_add]; exact hL _ _ _ h
  | f + 1, listed, a, w, h => by
    rw [show f + 1 + g = (f + g) + 1 by omega]
    exact ⟨fun h0 => absurd h0 h.1, fun i hi => wpOp_imp hq (wpOp_mono (fun a' w' h' => wpAny_of_X hq hL f _ a' w' h'.2) (h.2 i hi).2)⟩

theorem yieldsIf_later {o : Oper} {v : Value} {a : Act} {w w' : World} (hy : YieldsIf P ops (Bel M w) o v a) (hb : Bel M w w') : YieldsIf P ops (Bel M w') o v a :=
  hy.imp (fun ⟨h1, h2⟩ => ⟨h1, fun W hW => h2 W (hb.trans hW)⟩) id

theorem wpX_first {i : Nat} {oi : Oper} {v : Value} {L : Array Bool → Act → World → Prop} (hi : ops[i]? = some oi) (hsel : ∀ (j : Nat) (o : Oper) cs b, ops[j]? = some o → o.op ≠ .select cs b)
    (hQ : ∀ c a w, Q (.panic c) (a.put oi.dst v) w → Q (.panic c) a w)
    (htail : ∀ listed, HeadInv md ops n listed → listed.getD i true = false → ∀ j ∈ Region.ready md ops listed, j < n) (hin : i < n)
    (hdone : ∀ listed a w, L listed a w → ∀ j ∈ Region.ready md ops listed, n ≤ j) :
    ∀ (f : Nat) (listed : Array Bool) (a : Act) (w : World), HeadInv md ops n listed →
      (∀ j oj, ops[j]? = some oj → j ≠ i → listed.getD j true = false → (∀ e ∈ oj.after, Region.binds md e = true → e.on ≠ i) → oi.apart ops oj = true) →
      i ∈ Region.ready md ops listed → YieldsIf P ops (Bel M w) oi v a →
      wpX P md ops Q n M L f (listed.setIfInBounds i true) (a.put oi.dst v) w → wpX P md ops Q n M L (f + 1) listed a w := by
  intro f
  induction f with
  | zero =>
    intro listed a w inv _ hr hy H
    refine ⟨fun h => (by rw [h] at hr; cases hr), fun j hj => ?_⟩
    have hjn := htail listed inv (mem_ready.1 hr).1 j hj
    refine ⟨hjn, ?_⟩
    by_cases hji : j = i
    · subst hji; exact hy.wpOp hi (Bel.refl _ _) ⟨Bel.refl _ _, H⟩
    · have := hdone _ _ _ H j (ready_mono hj hji)
      omega
  | succ f ih =>
    intro listed a w inv hfree hr hy H
    refine ⟨fun h => (by rw [h] at hr; cases hr), fun j hj => ?_⟩
    have hjn := htail listed inv (mem_ready.1 hr).1 j hj
    refine ⟨hjn, ?_⟩
    by_cases hji : j = i
    · subst hji; exact hy.wpOp hi (Bel.refl _ _) ⟨Bel.refl _ _, H⟩
    · have h1 := (H.2 j (ready_mono hj hji)).2
      obtain ⟨hjun, oj, hoj, hall⟩ := mem_ready.1 hj
      have hnot : ∀ e ∈ oj.after, Region.binds md e = true → e.on ≠ i := fun e he hb heq => by
        have h1 := hall e he hb
        rw [heq, getD_both (mem_ready.1 hr).1] at h1
        cases h1
      have h2 := wpOp_putIf hoj (hfree j oj hoj hji hjun hnot) (fun cs b => hsel i oi cs b hi) (fun cs b => hsel j oj cs b hoj) hQ hy h1
      have hfree' : ∀ k ok, ops[k]? = some ok → k ≠ i → (listed.setIfInBounds j true).getD k true = false →
          (∀ e ∈ ok.after, Region.binds md e = true → e.on ≠ i) → oi.apart ops ok = true := fun k ok hk hki hun hno => by
        refine hfree k ok hk hki ?_ hno
        by_cases hjk : j = k
        · subst hjk; exact hjun
        · rw [getD_set_ne true hjk] at hun; exact hun
      refine wpOp_mono (fun a' w' h3 => ⟨h3.2.1, ih (listed.setIfInBounds j true) a' w' (inv.set hj hjn) hfree' (ready_mono hr (Ne.symm hji)) (yieldsIf_later h3.1 h3.2.1) ?_⟩) h2
      rw [Array.setIfInBounds_comm _ _ hji]
      exact h3.2.2

def wpPlan (P : Program) (ops : Array Oper) (Q : Exit → Act → World → Prop) (n : Nat) (M : BSet) : Plan → Act → World → Prop
  | .done, a, w => wpList P ops Q (ops.toList.drop n) a w
  | .q is p, a, w => wpQuiet P ops (Cls M w) (fun a' => wpPlan P ops Q n M p a' w) (is.filterMap fun i => ops[i]?) a
  | .e1 i p, a, w => wpOp P ops (Calm Q) i (fun a' w' => Bel M w w' ∧ wpPlan P ops Q n M p a' w') a w
  | .e2 i p j r, a, w => wpOp P ops (Calm Q) i (fun a' w' => Bel M w w' ∧ wpPlan P ops Q n M p a' w') a w ∧ wpOp P ops (Calm Q) j (fun a' w' => Bel M w w' ∧ wpPlan P ops Q n M r a' w') a w
  | .e3 i p j r k s, a, w => wpOp P ops (Calm Q) i (fun a' w' => Bel M w w' ∧ wpPlan P ops Q n M p a' w') a w ∧ wpOp P ops (Calm Q) j (fun a' w' => Bel M w w' ∧ wpPlan P ops Q n M r a' w') a w ∧ wpOp P ops (Calm Q) k (fun a' w' => Bel M w w' ∧ wpPlan P ops Q n M s a' w') a w

theorem yields_of_quiet {o : Oper} {a : Act} {w : World} {K : Act → Prop} (hv : valueOp o = true) (hw : Region.wanted o (yielded ops a.tmps) = true) (h : o.quiet P a (Cls M w) K) :
    ∃ v, YieldsIf P ops (Bel M w) o v a ∧ K (a.put o.dst v) := by
  obtain ⟨v, h1, h2⟩ := h
  refine ⟨v, .inl ⟨hw, fun W hW => ?_⟩, h2⟩
  have h3 := h1 W (below_cls hW)
  unfold Oper.quietAt at h3
  cases hr : (execOp a.eval o).run P W with
  | halt x w' => rw [hr] at h3; exact (h3 : False).elim
  | ok nx w' =>
    obtain ⟨u, rfl⟩ := valueOp_value hv hr
    rw [hr] at h3
    obtain ⟨rfl, rfl⟩ := h3
    rfl

theorem qok_sound {L : Array Bool → Act → World → Prop} {w : World} (hsel : Region.noSelect ops = true)
    (hQ : ∀ (o : Oper) (v : Value) c a w, Q (.panic c) (a.put o.dst v) w → Q (.panic c) a w)
    (htail : ∀ i, i < n → ∀ listed, HeadInv md ops n listed → listed.getD i true = false → ∀ j ∈ Region.ready md ops listed, j < n)
    (hdone : ∀ listed a w, L listed a w → ∀ j ∈ Region.ready md ops listed, n ≤ j) (k : Nat → Array Bool → Bool) (Kq : Act → Prop)
    (hk : ∀ f listed a, HeadInv md ops n listed → k f listed = true → Kq a → wpX P md ops Q n M L f listed a w) :
    ∀ (is : List Nat) (f : Nat) (listed : Array Bool) (a : Act), HeadInv md ops n listed → qok md ops n is f listed k = true →
      wpQuiet P ops (Cls M w) Kq (is.filterMap fun i => ops[i]?) a → wpX P md ops Q n M L f listed a w
  | [], f, listed, a, inv, h, hq => hk f listed a inv h hq
  | i :: is, 0, listed, a, inv, h, hq => by simp [qok] at h
  | i :: is, f + 1, listed, a, inv, h, hq => by
    simp only [qok, Bool.and_eq_true, decide_eq_true_eq] at h
    obtain ⟨⟨⟨⟨hr, hf⟩, hin⟩, hv⟩, hrest⟩ := h
    have hr' : i ∈ Region.ready md ops listed := by simpa using hr
    cases ho : ops[i]? with
    | none => simp [ho] at hv
    | some o =>
      simp only [ho] at hv
      simp only [List.filterMap_cons, ho] at hq
      unfold wpQuiet at hq
      have go : ∀ v, YieldsIf P ops (Bel M w) o v a → wpQuiet P ops (Cls M w) Kq (is.filterMap fun i => ops[i]?) (a.put o.dst v) → wpX P md ops Q n M L (f + 1) listed a w := fun v hy hK =>
        wpX_first ho (Region.noSelect_spec hsel) (hQ o v) (htail i hin) hin hdone f listed a w inv (Region.free_spec ho hf) hr' hy
          (qok_sound hsel hQ htail hdone k Kq hk is f _ _ (inv.set hr' hin) hrest hK)
      by_cases hw : Region.wanted o (yielded ops a.tmps) = true
      · rw [if_pos hw] at hq
        obtain ⟨v, hy, hK⟩ := yields_of_quiet hv hw hq
        exact go v hy hK
      · rw [if_neg hw] at hq
        exact go undef (.inr ⟨by simpa using hw, rfl⟩) hq

theorem plan_sound (hsel : Region.noSelect ops = true)
    (htail : ∀ i, i < n → ∀ listed, HeadInv md ops n listed → listed.getD i true = false → ∀ j ∈ Region.ready md ops listed, j < n) :
    ∀ (p : Plan) (f : Nat) (listed : Array Bool) (a : Act) (w : World), HeadInv md ops n listed → p.ok md ops n f listed = true → wpPlan P ops Q n M p a w →
      wpX P md ops (Calm Q) n M (fun listed a w => Region.seqB md ops (ops.size - n) n listed = true ∧ wpList P ops Q (ops.toList.drop n) a w) f listed a w
  | .done, f, listed, a, w, inv, h, hp => by
    simp only [Plan.ok, Bool.and_eq_true, decide_eq_true_eq] at h
    obtain ⟨rfl, hs⟩ := h
    exact ⟨hs, hp⟩
  | .q is p, f, listed, a, w, inv, h, hp =>
    qok_sound hsel (fun _ _ _ _ _ hp => hp) htail (fun _ _ _ hL => seqB_ready hL.1) (p.ok md ops n) (fun a' => wpPlan P ops Q n M p a' w)
      (fun f' listed' a' inv' hok hK => plan_sound hsel htail p f' listed' a' w inv' hok hK) is f listed a inv h hp
  | .e1 i p, 0, listed, a, w, inv, h, hp => by simp [Plan.ok] at h
  | .e1 i p, f + 1, listed, a, w, inv, h, hp => by
    simp only [Plan.ok, Bool.and_eq_true, decide_eq_true_eq] at h
    obtain ⟨⟨hr, hin⟩, hok⟩ := h
    refine ⟨fun h0 => (by rw [hr] at h0; cases h0), fun j hj => ?_⟩
    have hji : j = i := by rw [hr] at hj; simpa using hj
    subst hji
    refine ⟨hin, wpOp_mono (fun a' w' h' => ⟨h'.1, plan_sound hsel htail p f _ a' w' (inv.set hj hin) hok h'.2⟩) hp⟩
  | .e2 i p j r, 0, listed, a, w, inv, h, hp => by simp [Plan.ok] at h
  | .e2 i p j r, f + 1, listed, a, w, inv, h, hp => by
    simp only [Plan.ok, Bool.and_eq_true, decide_eq_true_eq] at h
    obtain ⟨⟨⟨⟨hr, hin⟩, hjn⟩, hok⟩, hok2⟩ := h
    refine ⟨fun h0 => (by rw [hr] at h0; cases h0), fun k hk => ?_⟩
    have hki : k = i ∨ k = j := by rw [hr] at hk; simpa using hk
    rcases hki with rfl | rfl
    · exact ⟨hin, wpOp_mono (fun a' w' h' => ⟨h'.1, plan_sound hsel htail p f _ a' w' (inv.set hk hin) hok h'.2⟩) hp.1⟩
    · exact ⟨hjn, wpOp_mono (fun a' w' h' => ⟨h'.1, plan_sound hsel htail r f _ a' w' (inv.set hk hjn) hok2 h'.2⟩) hp.2⟩
  | .e3 i p j r k s, 0, listed, a, w, inv, h, hp => by simp [Plan.ok] at h
  | .e3 i p j r k s, f + 1, listed, a, w, inv, h, hp => by
    simp only [Plan.ok, Bool.and_eq_true, decide_eq_true_eq] at h
    obtain ⟨⟨⟨⟨⟨⟨hr, hin⟩, hjn⟩, hkn⟩, hok⟩, hok2⟩, hok3⟩ := h
    refine ⟨fun h0 => (by rw [hr] at h0; cases h0), fun m hm => ?_⟩
    have hmi : m = i ∨ m = j ∨ m = k := by rw [hr] at hm; simpa using hm
    rcases hmi with rfl | rfl | rfl
    · exact ⟨hin, wpOp_mono (fun a' w' h' => ⟨h'.1, plan_sound hsel htail p f _ a' w' (inv.set hm hin) hok h'.2⟩) hp.1⟩
    · exact ⟨hjn, wpOp_mono (fun a' w' h' => ⟨h'.1, plan_sound hsel htail r f _ a' w' (inv.set hm hjn) hok2 h'.2⟩) hp.2.1⟩
    · exact ⟨hkn, wpOp_mono (fun a' w' h' => ⟨h'.1, plan_sound hsel htail s f _ a' w' (inv.set hm hkn) hok3 h'.2⟩) hp.2.2⟩

/-- **A region that draws its order goes by its plan.** -/
theorem wp_region_plan {id : Nat} {a : Act} {w : World} {l : List Oper} (n : Nat) (M : BSet) (p : Plan) (hm : P.follows .mixedOrders = true) (hB : planB .any l.toArray n p = true)
    (h : wpPlan P l.toArray Q n M p a w.drew) : (Code.region id l.toArray true).wp P Q a w := by
  simp only [planB, Bool.and_eq_true, Bool.or_eq_true, decide_eq_true_eq] at hB
  obtain ⟨⟨hsel, hn⟩, hok⟩ := hB
  have hle : n ≤ l.toArray.size := by rcases hn with h1 | h1 <;> omega
  have inv0 : HeadInv .any l.toArray n (Array.replicate l.toArray.size false) :=
    ⟨by simp, fun j oj _ hl => (by rw [getD_replicate_false] at hl; cases hl), fun t _ ht => getD_in (by simpa using ht) (getD_replicate_false _ _)⟩
  have htail : ∀ i, i < n → ∀ listed, HeadInv .any l.toArray n listed → listed.getD i true = false → ∀ j ∈ Region.ready .any l.toArray listed, j < n := by
    intro i hin listed inv hun j hj
    rcases hn with h1 | ⟨⟨h1, hs⟩, hc⟩
    · have := (mem_ready.1 hj).2.choose_spec.1
      have hlt : j < l.toArray.size := (Array.getElem?_eq_some_iff.1 this).1
      omega
    · rcases Nat.lt_or_ge j n with h2 | h2
      · exact h2
      · exact absurd hj (tail_waits hs hc h1 inv _ i rfl hin hun j h2)
  have H := plan_sound (P := P) (Q := Q) (md := .any) hsel htail p n _ a _ inv0 hok h
  refine wp_region_any hm ?_
  have h3 := wpAny_of_X (P := P) (Q := Calm Q) (Q' := Q) Calm.imp (g := l.toArray.size - n) (fun listed a' w' hL => by
    have h2 := wpAny_of_seq (P := P) (ops := l.toArray) (md := .any) (Q' := Q) (l.drop n) n listed a' w' (fun j => by simp [List.getElem?_drop]) (by rw [show (l.drop n).length = l.toArray.size - n by simp]; exact hL.1) (by simpa using hL.2)
    rwa [show (l.drop n).length = l.toArray.size - n by simp] at h2) _ _ _ _ H
  rw [show n + (l.toArray.size - n) = l.toArray.size by omega] at h3
  exact h3

/-! ### The steps of a walk -/
section
variable {l0 : List Oper}
theorem plan_done {a : Act} {w : World} {tl : List Oper} (ht : l0.drop n = tl) (h : wpList P l0.toArray Q tl a w) : wpPlan P l0.toArray Q n M .done a w := by
  unfold wpPlan; rw [show l0.toArray.toList = l0 by simp, ht]; exact h
theorem plan_end {a : Act} {w : World} (ht : l0.drop n = []) (h : Q .normal a w) : wpPlan P l0.toArray Q n M .done a w := plan_done ht h
theorem plan_q {is : List Nat} {p : Plan} {a : Act} {w : World} {l : List Oper} (hl : is.filterMap (nth l0) = l)
    (h : ∀ K : Act → Prop, (∀ a', wpPlan P l0.toArray Q n M p a' w → K a') → wpQuiet P l0.toArray (Cls M w) K l a) : wpPlan P l0.toArray Q n M (.q is p) a w := by
  unfold wpPlan
  rw [show (fun i => l0.toArray[i]?) = nth l0 from funext (nth_eq l0), hl]
  exact h _ (fun _ h => h)
theorem plan_e {i : Nat} {p : Plan} {a : Act} {w : World} {o : Oper} (hi : nth l0 i = some o) (hw : Region.wanted o (yielded l0.toArray a.tmps) = true)
    (h : ∀ K : Act → World → Prop, (∀ a' w', Bel M w w' → wpPlan P l0.toArray Q n M p a' w' → K a' w') → o.wp P a w K (Calm Q)) : wpPlan P l0.toArray Q n M (.e1 i p) a w := by
  unfold wpPlan wpOp
  simp only [nth_eq, hi, if_pos hw]
  exact .inl (h _ (fun a' w' h1 h2 => ⟨h1, h2⟩))
theorem plan_e_skip {i : Nat} {p : Plan} {a : Act} {w : World} {o : Oper} (hi : nth l0 i = some o) (hw : Region.wanted o (yielded l0.toArray a.tmps) = false)
    (h : wpPlan P l0.toArray Q n M p (a.put o.dst undef) w) : wpPlan P l0.toArray Q n M (.e1 i p) a w := by
  unfold wpPlan wpOp
  simp only [nth_eq, hi, hw]
  exact ⟨Bel.refl _ _, h⟩
theorem plan_e2 {i j : Nat} {p r : Plan} {a : Act} {w : World} (h1 : wpPlan P l0.toArray Q n M (.e1 i p) a w) (h2 : wpPlan P l0.toArray Q n M (.e1 j r) a w) : wpPlan P l0.toArray Q n M (.e2 i p j r) a w := by
  unfold wpPlan at h1 h2 ⊢
  exact ⟨h1, h2⟩
theorem plan_e3 {i j k : Nat} {p r s : Plan} {a : Act} {w : World} (h1 : wpPlan P l0.toArray Q n M (.e1 i p) a w) (h2 : wpPlan P l0.toArray Q n M (.e1 j r) a w) (h3 : wpPlan P l0.toArray Q n M (.e1 k s) a w) : wpPlan P l0.toArray Q n M (.e3 i p j r k s) a w := by
  unfold wpPlan at h1 h2 h3 ⊢
  exact ⟨h1, h2, h3⟩
end

/-! ### Facts in every world of the class -/
theorem cls_cell {w : World} {a : Addr} {v : Value} (h : w.cell? a = some v) (hm : a.block ∉ M := by simp) (p : Reg) : (regrow w M p).cell? a = some v := by
  have hb := (bel_regrow w M p).block a.block (block_lt_of_cell h) hm
  rw [World.cell?_of_block hb]; exact h

end
end Go.Dr.Any

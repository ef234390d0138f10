/- A range over a function whose rounds come in one known order, and that may be left early by a return. -/
import Derived.Test.YtbpmfaibcibleaaTooA
import Derived.RangeFuncNested
import Derived.RangeFuncBound
import Derived.RangeFuncCalls
import Derived.RangeFuncLeaves
import Derived.ControlIn
namespace Go.Bs
open Go.RowKit
variable {F : Fence} {n : Nat} {P : Program} {w : World}

/-- what an iterator promises, when each round is asked only for the element that comes next, and may say stop -/
def SeqStop {α : Type} (F : Fence) (n : Nat) (P : Program) (gf : Nat) (lb : Array Value) (encs : α → Array Value) (Kp : World → World → Prop) (S : List α → Prop) (Nx : List α → α → Prop) (w : World) : Prop :=
  ∀ (l : Nat) (J : List α → World → Prop) (Jx : List α → World → Prop) (W : World), Below w.heap.size w W → (∀ pre A B, Below W.heap.size A B → J pre A → J pre B) →
    (∀ pre x W1, J pre W1 → Nx pre x → YieldAt F (n - 1) P l (encs x) W1 fun e W' => (e = .returned (.bool true) ∧ J (pre ++ [x]) W' ∧ Kp W1 W') ∨ (e = .returned (.bool false) ∧ Jx (pre ++ [x]) W')) → J [] W →
    CallsIn F n P gf (#[.func (.yield l) #[] #[]] ++ lb) W fun e W' => (∃ v, e = .returned v) ∧ ((∃ xs, S xs ∧ J xs W') ∨ ∃ xs, Jx xs W')

/-- how a round ends -/
def stopPost {α : Type} (B : Nat) (Kp : World → World → Prop) (I Ix : List α → World → Prop) (xs : List α) (W : World) : Exit → Act → World → Prop
  | .normal, _, W' => KeepsFrom B W W' ∧ Kp W W' ∧ I xs W'
  | .ret, _, W' => KeepsFrom B W W' ∧ Ix xs W'
  | _, _, _ => False

def lrec2 (fn : FuncId) (tmps : Array Value) (ps : Array Tmp) (assign body : Code) (B : Nat) (st : LoopState) (pe : Option Code) : Loop :=
  { state := st, pending := pe, fn := fn, tmps := tmps, params := ps, assign := assign, body := body, defers := B }

theorem range_stop {α : Type} {g : Operand} {ps : Array Tmp} {assign body : Code} {Q : Exit → Act → World → Prop} {a : Act}
    (hro : F.round = none) (h1 : 1 ≤ n) {gf : Nat} {lb : Array Value} (hg : a.eval g = .func (.func gf) #[] lb) (hFg : F.fn gf) (eg : ∀ args w, (callFunc gf args).run P w = .ok (.enter gf args) w)
    {encs : α → Array Value} {Kp : World → World → Prop} {S : List α → Prop} {Nx : List α → α → Prop} (hseq : SeqStop F (n - 1) P gf lb encs Kp S Nx w)
    (hKt : ∀ {A B C : World}, Kp A B → Kp B C → Kp A C) (hKb : ∀ (W : World) (l : Nat) (o o' : Obj), w.heap.size ≤ l → W.heap[l]? = some o → o.isCells = false → o.isWalk = false → Kp W (W.putObj l o')) (hps : ∀ x, (encs x).size = ps.size)
    (I Ix : List α → World → Prop) (hI : OwnFrom w.heap.size I) (hIB : ∀ pre A B, Below w.heap.size A B → I pre A → I pre B) (hIx : OwnFrom w.heap.size Ix) (h0 : I [] w) (Ax : α → Act → World → Prop) (hAx : ∀ x a', OwnFrom w.heap.size (fun (_ : Unit) W => Ax x a' W))
    (hassign : ∀ (l : Nat) (pre : List α) (x : α) (W : World) (K : Act → World → Prop), I pre W → (∀ a' W', KeepsFrom w.heap.size W W' → Kp W W' → I pre W' → Ax x a' W' → K a' W') →
      assign.wpIn (F.inRound l) (n - 1 - 1) P (Exit.then K (fun _ _ _ => False)) { tmps := (ps.zip (encs x)).foldl (fun t (p, v) => t.setIfInBounds p v) a.tmps, defers := [] } W)
    (hbody : ∀ (l : Nat) (pre : List α) (x : α) (a' : Act) (W : World), w.heap.size ≤ l → I pre W → Ax x a' W → Nx pre x → body.wpIn (F.inRound l) (n - 1 - 1) P (stopPost w.heap.size Kp I Ix (pre ++ [x]) W) a' W)
    (hdone : ∀ (D : Nat) (xs : List α) (W : World), w.heap.size ≤ D → S xs → I xs W → W.heap[D]? = some (.deferred (some [])) → Q .normal { a with defers := { target := .collected D, args := #[] } :: a.defers } W)
    (hstop : ∀ (D : Nat) (xs : List α) (W : World), w.heap.size ≤ D → Ix xs W → W.heap[D]? = some (.deferred (some [])) → Q .ret { a with defers := { target := .collected D, args := #[] } :: a.defers } W) :
    (Code.rangeFunc g ps assign body).wpIn F n P Q a w := by
  refine wpIn_rangeFunc fun fn hfn => ?_
  rw [hro]
  have eD : (w.alloc (.deferred (some []))).heap.size = w.heap.size + 1 := by simp
  generalize hL : w.heap.size + 1 = L at eD
  have hBL : w.heap.size ≤ L := by omega
  have hDL : w.heap.size ≠ L := by omega
  generalize hR : lrec2 fn a.tmps ps assign body w.heap.size = R
  have hRp : ∀ st pe, (R st pe).params = ps := fun st pe => by rw [← hR]; rfl
  have hRs : ∀ st pe, (R st pe).state = st := fun st pe => by rw [← hR]; rfl
  have hRe : ∀ st pe, (R st pe).pending = pe := fun st pe => by rw [← hR]; rfl
  have hRu : ∀ st pe st' pe', { R st pe with state := st', pending := pe' } = R st' pe' := fun st pe st' pe' => by rw [← hR]; rfl
  have hRb : ∀ st pe st', { R st pe with state := st' } = R st' pe := fun st pe st' => by rw [← hR]; rfl
  let W1 := (w.alloc (.deferred (some []))).alloc (.loop (R .ready none))
  have l1 : W1.heap[L]? = some (.loop (R .ready none)) := by rw [← eD]; exact World.alloc_heap_new _ _
  have d1 : W1.heap[w.heap.size]? = some (.deferred (some [])) := (Below.heap_alloc _ _ _ (by simp)).trans (World.alloc_heap_new w _)
  have i1 : I [] W1 := hI.alloc _ (hI.alloc _ h0)
  have b1 : Below w.heap.size w W1 := ((Below.refl _ w).alloc (Nat.le_refl _) _).alloc (by rw [eD]; omega) _
  let J : List α → World → Prop := fun pre W => I pre W ∧ W.heap[L]? = some (.loop (R .ready none)) ∧ W.heap[w.heap.size]? = some (.deferred (some []))
  let Jx : List α → World → Prop := fun pre W => Ix pre W ∧ W.heap[L]? = some (.loop (R .done (some .ret))) ∧ W.heap[w.heap.size]? = some (.deferred (some []))
  have round : ∀ pre x W, J pre W → Nx pre x → YieldAt F (n - 1 - 1) P L (encs x) W fun e W' => (e = .returned (.bool true) ∧ J (pre ++ [x]) W' ∧ Kp W W') ∨ (e = .returned (.bool false) ∧ Jx (pre ++ [x]) W') := by
    intro pre x W hJ hx
    obtain ⟨hi, hl, hd⟩ := hJ
    have hy := run_yield (P := P) (args := encs x) hl (by rw [hRp]; exact hps x)
    rw [← hR] at hy
    refine ⟨fn, _, assign, body, hy, roundIn_of_wpIn hfn (hassign _ pre x W _ hi fun a' V kf kp hi' hax => ?_)⟩
    have hl' := kf.same _ _ hBL hl rfl
    have hd' := kf.same _ _ (Nat.le_refl _) hd rfl
    have hlt : L < V.heap.size := (Array.getElem?_eq_some_iff.1 hl').1
    refine ⟨_, run_beginRound hl' (hRs _ _), ?_⟩
    rw [hRb]
    have lb2 : (V.putObj L (.loop (R .busy none))).heap[L]? = some (.loop (R .busy none)) := World.putObj_heap_same hlt
    have db2 : (V.putObj L (.loop (R .busy none))).heap[w.heap.size]? = some (.deferred (some [])) := (World.putObj_heap_other hDL).trans hd'
    have kp2 := kp
    have kpB := hKb V L _ (.loop (R .busy none)) hBL hl' rfl rfl
    refine wpIn_mono (hbody L pre x a' _ hBL (hI.putObj _ hi' hBL hl' rfl) ((hAx x a').putObj (s := ()) _ hax hBL hl' rfl) hx) ?_
    intro e a3 W3 hp
    cases e with
    | normal =>
      obtain ⟨kf3, kp3, hi3⟩ := hp
      have l3 := kf3.same _ _ hBL lb2 rfl
      have d3 := kf3.same _ _ (Nat.le_refl _) db2 rfl
      have hlt3 : L < W3.heap.size := (Array.getElem?_eq_some_iff.1 l3).1
      have he := run_endRound (P := P) none l3
      rw [show (if (none : Option Code).isNone then LoopState.ready else LoopState.done) = LoopState.ready from rfl, hRu] at he
      exact ⟨_, _, he, .inl ⟨rfl, ⟨hI.putObj _ hi3 hBL l3 rfl, World.putObj_heap_same hlt3, (World.putObj_heap_other hDL).trans d3⟩, hKt kp2 (hKt kpB (hKt kp3 (hKb W3 L _ _ hBL l3 rfl rfl)))⟩⟩
    | ret =>
      obtain ⟨kf3, hi3⟩ := hp
      have l3 := kf3.same _ _ hBL lb2 rfl
      have d3 := kf3.same _ _ (Nat.le_refl _) db2 rfl
      have hlt3 : L < W3.heap.size := (Array.getElem?_eq_some_iff.1 l3).1
      have he := run_endRound (P := P) (some .ret) l3
      rw [show (if (some Code.ret).isNone then LoopState.ready else LoopState.done) = LoopState.done from rfl, hRu] at he
      exact ⟨_, _, he, .inr ⟨rfl, hIx.putObj _ hi3 hBL l3 rfl, World.putObj_heap_same hlt3, (World.putObj_heap_other hDL).trans d3⟩⟩
    | exit id => exact hp.elim
    | goto t => exact hp.elim
    | panic ch => exact hp.elim
    | outgrown => exact hp.elim
  refine ⟨L, [{ target := .collected w.heap.size, args := #[] }], W1, { target := .fn (.func gf) lb, args := #[.func (.yield L) #[] #[]] }, W1, gf, #[.func (.yield L) #[] #[]] ++ lb, W1, ?_, ?_, ?_, ?_, fun _ => h1, ?_⟩
  · rw [run_enterLoop_outer, hL]
    show _ = Result.ok _ ((w.alloc (.deferred (some []))).alloc (.loop (R .ready none)))
    rw [← hR]; rfl
  · simp only [resolve, hg]
    simp [go_sem]
  · intro f' hf'; simp [Target.leads] at hf'; subst hf'; exact hFg
  · simp [invoke, go_sem, eg]
  · have hL1 : L < W1.heap.size := (Array.getElem?_eq_some_iff.1 l1).1
    refine (hseq L J Jx W1 b1 (fun pre A B hb hj => ⟨hIB pre A B (hb.mono b1.size) hj.1, (hb.block L hL1).trans hj.2.1, (hb.block _ (by omega)).trans hj.2.2⟩) round ⟨i1, l1, d1⟩).mono ?_
    rintro e W2 ⟨⟨v, rfl⟩, ⟨xs, hS, hi, hl, hd⟩ | ⟨xs, hi, hl, hd⟩⟩
    · refine ⟨none, _, ?_, hdone _ xs _ (Nat.le_refl _) hS (hI.putObj (.loop (R .exhausted none)) hi hBL hl rfl) ((World.putObj_heap_other hDL).trans hd)⟩
      have he := run_endLoop (P := P) hl (by rw [hRs]; simp)
      rw [hRe, hRu] at he
      exact he
    · refine ⟨some .ret, _, ?_, wpIn_ret (hstop _ xs _ (Nat.le_refl _) (hIx.putObj (.loop (R .exhausted (some .ret))) hi hBL hl rfl) ((World.putObj_heap_other hDL).trans hd))⟩
      have he := run_endLoop (P := P) hl (by rw [hRs]; simp)
      rw [hRe, hRu] at he
      exact he
/-- what a round keeps: all cells but those of the blocks M -/
structure KpC (M : List Nat) (W W' : World) : Prop where
  os : W'.os = W.os
  tape : W'.tape = W.tape
  output : W'.output = W.output
  size : W.heap.size ≤ W'.heap.size
  block : ∀ (k : Nat) (o : Obj), W.heap[k]? = some o → o.isCells = true → k ∉ M → W'.heap[k]? = some o
theorem KpC.refl (M : List Nat) (W : World) : KpC M W W := ⟨rfl, rfl, rfl, Nat.le_refl _, fun _ _ h _ _ => h⟩
theorem KpC.trans {M : List Nat} {A B C : World} (h : KpC M A B) (k : KpC M B C) : KpC M A C :=
  ⟨k.os.trans h.os, k.tape.trans h.tape, k.output.trans h.output, Nat.le_trans h.size k.size, fun i o h1 h2 h3 => k.block i o (h.block i o h1 h2 h3) h2 h3⟩
theorem KpC.of {M : List Nat} {A B : World} (h : Dr.Bel M A B) : KpC M A B :=
  ⟨h.os, h.tape, h.output, h.size, fun i _ h1 _ h3 => (h.block i (Array.getElem?_eq_some_iff.1 h1).1 h3).trans h1⟩
theorem KpC.put {M : List Nat} (W : World) (l : Nat) (o o' : Obj) (hl : W.heap[l]? = some o) (hc : o.isCells = false) : KpC M W (W.putObj l o') :=
  ⟨rfl, rfl, rfl, by simp, fun k p h1 h2 _ => (World.putObj_heap_other (fun e => by subst e; rw [hl] at h1; cases h1; rw [hc] at h2; cases h2)).trans h1⟩
theorem KpC.blk {M : List Nat} {A B : World} (h : KpC M A B) {b T : Nat} {cs : List Value} (hB : Blk A b T cs) (hm : b ∉ M) : Blk B b T cs := h.block b _ hB rfl hm
theorem KpC.cells {α : Type} {M : List Nat} {W W' : World} (h : KpC M W W') {A : Option Addr} {sz : Nat} {enc : α → List Value} {l : List α} (hc : Cells W A sz enc l) (hA : ∀ k, A.map (·.block) = some k → k ∉ M) : Cells W' A sz enc l := by
  intro i x hi
  obtain ⟨b, off, e, hcc⟩ := hc i x hi
  refine ⟨b, off, e, fun j y hj => ?_⟩
  have h1 := hcc j y hj
  obtain ⟨o, ho, hc2⟩ := cells_of_cell h1
  rw [World.cell?_of_block ((h.block b o ho hc2 (hA b (by rw [e]; rfl))).trans ho.symm)]
  exact h1
end Go.Bs

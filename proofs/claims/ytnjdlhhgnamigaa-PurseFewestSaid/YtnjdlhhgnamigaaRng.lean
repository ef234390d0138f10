/- A range over a function whose rounds come in one known order: the body is asked only for what comes next. No early leave. -/
import Derived.RangeFuncNested
import Derived.RangeFuncBound
import Derived.RangeFuncCalls
import Derived.RangeFuncLeaves
import Derived.OwnWalkIn
import Derived.Test.YtnjdlhhgnamigaaGround
namespace Go.Bs
open Go.RowKit
variable {F : Fence} {n : Nat} {P : Program} {w : World}

/-- what an iterator promises, when each round is asked only for the element that comes next -/
def SeqNext {α : Type} (F : Fence) (n : Nat) (P : Program) (gf : Nat) (lb : Array Value) (encs : α → Array Value) (Kp : World → World → Prop) (S : List α → Prop) (Nx : List α → α → Prop) (w : World) : Prop :=
  ∀ (l : Nat) (J : List α → World → Prop) (W : World), Below w.heap.size w W →
    (∀ pre x W1, J pre W1 → Nx pre x → YieldAt F (n - 1) P l (encs x) W1 fun e W' => e = .returned (.bool true) ∧ J (pre ++ [x]) W' ∧ Kp W1 W') → J [] W →
    CallsIn F n P gf (#[.func (.yield l) #[] #[]] ++ lb) W fun e W' => (∃ v, e = .returned v) ∧ ∃ xs, S xs ∧ J xs W'

/-- the loop's record, in a state -/
def lrec (fn : FuncId) (tmps : Array Value) (ps : Array Tmp) (assign body : Code) (B : Nat) (st : LoopState) : Loop :=
  { state := st, pending := none, fn := fn, tmps := tmps, params := ps, assign := assign, body := body, defers := B }

/-- how a round ends -/
def nextPost {α : Type} (B : Nat) (Kp : World → World → Prop) (I : List α → World → Prop) (xs : List α) (W : World) : Exit → Act → World → Prop
  | .normal, _, W' => KeepsFrom B W W' ∧ Kp W W' ∧ I xs W'
  | _, _, _ => False

theorem range_next {α : Type} {g : Operand} {ps : Array Tmp} {assign body : Code} {Q : Exit → Act → World → Prop} {a : Act}
    (hro : F.round = none) (h1 : 1 ≤ n) {gf : Nat} {lb : Array Value} (hg : a.eval g = .func (.func gf) #[] lb) (hFg : F.fn gf) (eg : ∀ args w, (callFunc gf args).run P w = .ok (.enter gf args) w)
    {encs : α → Array Value} {Kp : World → World → Prop} {S : List α → Prop} {Nx : List α → α → Prop} (hseq : SeqNext F (n - 1) P gf lb encs Kp S Nx w)
    (hKt : ∀ {A B C : World}, Kp A B → Kp B C → Kp A C) (hKb : ∀ (W : World) (l : Nat) (o o' : Obj), w.heap.size ≤ l → W.heap[l]? = some o → o.isCells = false → o.isWalk = false → Kp W (W.putObj l o')) (hps : ∀ x, (encs x).size = ps.size)
    (I : List α → World → Prop) (hI : OwnFrom w.heap.size I) (h0 : I [] w) (Ax : α → Act → World → Prop) (hAx : ∀ x a', OwnFrom w.heap.size (fun (_ : Unit) W => Ax x a' W))
    (hassign : ∀ (l : Nat) (pre : List α) (x : α) (W : World) (K : Act → World → Prop), I pre W → (∀ a' W', KeepsFrom w.heap.size W W' → Kp W W' → I pre W' → Ax x a' W' → K a' W') →
      assign.wpIn (F.inRound l) (n - 1 - 1) P (Exit.then K (fun _ _ _ => False)) { tmps := (ps.zip (encs x)).foldl (fun t (p, v) => t.setIfInBounds p v) a.tmps, defers := [] } W)
    (hbody : ∀ (l : Nat) (pre : List α) (x : α) (a' : Act) (W : World), w.heap.size ≤ l → I pre W → Ax x a' W → Nx pre x → body.wpIn (F.inRound l) (n - 1 - 1) P (nextPost w.heap.size Kp I (pre ++ [x]) W) a' W)
    (hdone : ∀ (D : Nat) (xs : List α) (W : World), w.heap.size ≤ D → S xs → I xs W → W.heap[D]? = some (.deferred (some [])) → Q .normal { a with defers := { target := .collected D, args := #[] } :: a.defers } W) :
    (Code.rangeFunc g ps assign body).wpIn F n P Q a w := by
  refine wpIn_rangeFunc fun fn hfn => ?_
  rw [hro]
  -- the two blocks that the loop lays: D, for deferred calls; L, its record
  have eD : (w.alloc (.deferred (some []))).heap.size = w.heap.size + 1 := by simp
  generalize hL : w.heap.size + 1 = L at eD
  have hBL : w.heap.size ≤ L := by omega
  have hDL : w.heap.size ≠ L := by omega
  generalize hR : lrec fn a.tmps ps assign body w.heap.size = R
  have hRp : ∀ st, (R st).params = ps := fun st => by rw [← hR]; rfl
  have hRs : ∀ st, (R st).state = st := fun st => by rw [← hR]; rfl
  have hRu : ∀ st st', { R st with state := st', pending := none } = R st' := fun st st' => by rw [← hR]; rfl
  have hRb : ∀ st st', { R st with state := st' } = R st' := fun st st' => by rw [← hR]; rfl
  let W1 := (w.alloc (.deferred (some []))).alloc (.loop (R .ready))
  have l1 : W1.heap[L]? = some (.loop (R .ready)) := by rw [← eD]; exact World.alloc_heap_new _ _
  have d1 : W1.heap[w.heap.size]? = some (.deferred (some [])) := (Below.heap_alloc _ _ _ (by simp)).trans (World.alloc_heap_new w _)
  have i1 : I [] W1 := hI.alloc _ (hI.alloc _ h0)
  have b1 : Below w.heap.size w W1 := ((Below.refl _ w).alloc (Nat.le_refl _) _).alloc (by rw [eD]; omega) _
  -- what holds between the rounds
  let J : List α → World → Prop := fun pre W => I pre W ∧ W.heap[L]? = some (.loop (R .ready)) ∧ W.heap[w.heap.size]? = some (.deferred (some []))
  have round : ∀ pre x W, J pre W → Nx pre x → YieldAt F (n - 1 - 1) P L (encs x) W fun e W' => e = .returned (.bool true) ∧ J (pre ++ [x]) W' ∧ Kp W W' := by
    intro pre x W hJ hx
    obtain ⟨hi, hl, hd⟩ := hJ
    have hy := run_yield (P := P) (args := encs x) hl (by rw [hRp]; exact hps x)
    rw [← hR] at hy
    refine ⟨fn, _, assign, body, hy, roundIn_of_wpIn hfn (hassign _ pre x W _ hi fun a' V kf kp hi' hax => ?_)⟩
    have hl' := kf.same _ _ hBL hl rfl
    have hd' := kf.same _ _ (Nat.le_refl _) hd rfl
    have hlt : L < V.heap.size := (Array.getElem?_eq_some_iff.1 hl').1
    refine ⟨_, run_beginRound hl' (hRs _), ?_⟩
    rw [hRb]
    have lb2 : (V.putObj L (.loop (R .busy))).heap[L]? = some (.loop (R .busy)) := World.putObj_heap_same hlt
    have db2 : (V.putObj L (.loop (R .busy))).heap[w.heap.size]? = some (.deferred (some [])) := (World.putObj_heap_other hDL).trans hd'
    have kp2 := kp
    have kpB := hKb V L _ (.loop (R .busy)) hBL hl' rfl rfl
    refine wpIn_mono (hbody L pre x a' _ hBL (hI.putObj _ hi' hBL hl' rfl) ((hAx x a').putObj (s := ()) _ hax hBL hl' rfl) hx) ?_
    intro e a3 W3 hp
    cases e with
    | normal =>
      obtain ⟨kf3, kp3, hi3⟩ := hp
      have l3 := kf3.same _ _ hBL lb2 rfl
      have d3 := kf3.same _ _ (Nat.le_refl _) db2 rfl
      have hlt3 : L < W3.heap.size := (Array.getElem?_eq_some_iff.1 l3).1
      have he := run_endRound (P := P) none l3
      rw [show (if (none : Option Code).isNone then LoopState.ready else LoopState.done) = LoopState.ready from rfl, hRu] at he
      exact ⟨_, _, he, rfl, ⟨hI.putObj _ hi3 hBL l3 rfl, World.putObj_heap_same hlt3, (World.putObj_heap_other hDL).trans d3⟩, hKt kp2 (hKt kpB (hKt kp3 (hKb W3 L _ _ hBL l3 rfl rfl)))⟩
    | ret => exact hp.elim
    | exit id => exact hp.elim
    | goto t => exact hp.elim
    | panic ch => exact hp.elim
    | outgrown => exact hp.elim
  refine ⟨L, [{ target := .collected w.heap.size, args := #[] }], W1, { target := .fn (.func gf) lb, args := #[.func (.yield L) #[] #[]] }, W1, gf, #[.func (.yield L) #[] #[]] ++ lb, W1, ?_, ?_, ?_, ?_, fun _ => h1, ?_⟩
  · rw [run_enterLoop_outer, hL]
    show _ = Result.ok _ ((w.alloc (.deferred (some []))).alloc (.loop (R .ready)))
    rw [← hR]; rfl
  · simp only [resolve, hg]
    simp [go_sem]
  · intro f' hf'; simp [Target.leads] at hf'; subst hf'; exact hFg
  · simp [invoke, go_sem, eg]
  · refine (hseq L J W1 b1 round ⟨i1, l1, d1⟩).mono ?_
    rintro e W2 ⟨⟨v, rfl⟩, xs, hS, hi, hl, hd⟩
    refine ⟨none, _, ?_, hdone _ xs _ (Nat.le_refl _) hS (hI.putObj (.loop (R .exhausted)) hi hBL hl rfl) ((World.putObj_heap_other hDL).trans hd)⟩
    have he := run_endLoop (P := P) hl (by rw [hRs]; simp)
    have hp : (R .ready).pending = none := by rw [← hR]; rfl
    rw [hp, hRu] at he
    exact he
end Go.Bs

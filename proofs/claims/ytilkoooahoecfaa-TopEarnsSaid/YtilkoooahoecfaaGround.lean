/- Plain lists; slices that read as lists; regions that draw; rows of the call's own. -/
import Derived.StillTail
import Derived.OrdersHeld
import Derived.Deep.Quiet
import Derived.Lib.QuietBelow
import Derived.WalkKit
import Derived.WalkSpells
import Derived.Outline
import Derived.Deep.QuietTactic
import Derived.BigQuiet
import Derived.Deep.Draws
import Derived.Deep.DrawnRows
import Derived.Deep.RegionWith
import Derived.Deep.LoopGhost
import Derived.Deep.DeepFit
import Derived.Deep.DeepMust
import Derived.Lib.Hide
import Derived.Deep.AppendLies
import Derived.Scope
import Derived.ControlIn
import Derived.OrdersIn
import Derived.OwnWalkIn
import Derived.RangeFuncCalls
/- Plain lemmas on lists and numbers. -/
namespace Go.Pl
def isum : List Int → Int
  | [] => 0
  | x :: r => x + isum r
theorem isum_append (a b : List Int) : isum (a ++ b) = isum a + isum b := by
  induction a with
  | nil => simp [isum]
  | cons x a ih => simp only [List.cons_append, isum, ih]; omega
theorem isum_nonneg {l : List Int} (h : ∀ x ∈ l, 0 ≤ x) : 0 ≤ isum l := by
  induction l with
  | nil => simp [isum]
  | cons x l ih => have := h x (by simp); have := ih (fun y hy => h y (by simp [hy])); simp only [isum]; omega
theorem isum_le {l : List Int} {m : Int} (h : ∀ x ∈ l, x ≤ m) : isum l ≤ l.length * m := by
  induction l with
  | nil => simp [isum]
  | cons x l ih =>
    have := h x (by simp)
    have := ih (fun y hy => h y (by simp [hy]))
    simp only [isum, List.length_cons]
    rw [show ((l.length + 1 : Nat) : Int) * m = l.length * m + m by rw [Int.natCast_add, Int.add_mul]; simp]
    omega
theorem isum_map_take_succ {α : Type} (f : α → Int) (l : List α) (k : Nat) (h : k < l.length) : isum ((l.take (k + 1)).map f) = isum ((l.take k).map f) + f l[k] := by
  rw [List.take_succ_eq_append_getElem h, List.map_append, isum_append]
  simp [isum]
theorem isum_map_bd {α : Type} (f : α → Int) (l : List α) (m : Int) (h : ∀ x ∈ l, 0 ≤ f x ∧ f x ≤ m) : 0 ≤ isum (l.map f) ∧ isum (l.map f) ≤ l.length * m := by
  constructor
  · exact isum_nonneg (fun y hy => by obtain ⟨x, hx, rfl⟩ := List.mem_map.1 hy; exact (h x hx).1)
  · have := isum_le (l := l.map f) (m := m) (fun y hy => by obtain ⟨x, hx, rfl⟩ := List.mem_map.1 hy; exact (h x hx).2)
    simpa using this
theorem mul_bd {a b m n : Int} (h1 : 0 ≤ a) (h2 : a ≤ m) (h3 : 0 ≤ b) (h4 : b ≤ n) : 0 ≤ a * b ∧ a * b ≤ m * n :=
  ⟨Int.mul_nonneg h1 h3, Int.mul_le_mul h2 h4 h3 (Int.le_trans h1 h2)⟩
/-- The values of f at 0 .. n-1. -/
def tab (n : Nat) (f : Nat → Int) : List Int := (List.range n).map f
def upd (f : Nat → Int) (k : Nat) (v : Int) : Nat → Int := fun i => if i = k then v else f i
theorem tab_len (n : Nat) (f : Nat → Int) : (tab n f).length = n := by simp [tab]
theorem tab_get {n : Nat} (f : Nat → Int) {i : Nat} (h : i < n) : (tab n f)[i]? = some (f i) := by simp [tab, h]
theorem tab_set (n : Nat) (f : Nat → Int) (k : Nat) (v : Int) : (tab n f).set k v = tab n (upd f k v) := by
  apply List.ext_getElem?
  intro i
  rw [List.getElem?_set]
  by_cases hi : i < n
  · rw [tab_get _ hi, tab_get _ hi, tab_len]
    by_cases e : k = i
    · subst e; simp [hi, upd]
    · rw [if_neg e]; simp [upd, Ne.symm e]
  · rw [List.getElem?_eq_none (by rw [tab_len]; omega), List.getElem?_eq_none (by rw [tab_len]; omega)]
    split
    · rw [if_neg (by rw [tab_len]; omega)]
    · rfl
theorem upd_self (f : Nat → Int) (k : Nat) (v : Int) : upd f k v k = v := by simp [upd]
theorem upd_ne (f : Nat → Int) {k i : Nat} (v : Int) (h : i ≠ k) : upd f k v i = f i := by simp [upd, h]
theorem upd_upd (f : Nat → Int) (k : Nat) (u v : Int) : upd (upd f k u) k v = upd f k v := by funext i; simp only [upd]; split <;> rfl
theorem tab_zero (n : Nat) : tab n (fun _ => 0) = List.replicate n 0 := by
  apply List.ext_getElem?
  intro i
  by_cases hi : i < n
  · rw [tab_get _ hi]; simp [hi]
  · rw [List.getElem?_eq_none (by rw [tab_len]; omega), List.getElem?_eq_none (by simp; omega)]

end Go.Pl

/- A region that draws its order: one plan serves every order. What only reads is taken first, in every world that extends the one at hand; what has an effect (a call, a new block) must leave an extension of the world that it got; stores stand at the end. -/
namespace Go.Dr
open Go.RowKit Go.Sort

/-- A panic is let out of no region here. -/
def Calm (Q : Exit → Act → World → Prop) : Exit → Act → World → Prop
  | .panic _, _, _ => False
  | e, a, w => Q e a w
theorem Calm.imp {Q : Exit → Act → World → Prop} : ∀ (e : Exit) (a : Act) (w : World), Calm Q e a w → Q e a w := fun e a w h => by
  cases e <;> first | exact h | exact (h : False).elim

/-- Operations that hand back a value and do nothing else. -/
def valueOp (o : Oper) : Bool :=
  match o.op with
  | .move _ | .assign _ | .pick .. | .build .. | .load .. | .binOp .. | .unOp .. | .convert .. | .fieldAddr .. | .field .. | .indexAddr .. | .index ..
  | .slice .. | .extract .. | .makeFunc .. | .lookup .. | .nilCheck .. => true
  | .call { callee := .builtin b, .. } => match b with | .len | .cap | .min | .max => true | _ => false
  | _ => false

theorem run_value {P : Program} {s : Sem Value} {w w' : World} {n : Next} (h : (do pure (Next.value (← s)) : Sem Next).run P w = .ok n w') : ∃ v, n = .value v := by
  rw [Sem.run_bind] at h
  cases hs : s.run P w with
  | ok v w1 => rw [hs] at h; simp only [Result.andThen] at h; cases h; exact ⟨v, rfl⟩
  | halt x w1 => rw [hs] at h; simp [Result.andThen] at h

theorem valueOp_value {P : Program} {o : Oper} (hv : valueOp o = true) {ρ : Operand → Value} {w w' : World} {n : Next} (h : (execOp ρ o).run P w = .ok n w') : ∃ v, n = .value v := by
  unfold valueOp at hv
  unfold execOp at h
  split at hv <;> rename_i hop <;> (try rw [hop] at h) <;> (try exact run_value h)
  case h_1 => cases h; exact ⟨_, rfl⟩
  case h_2 => cases h; exact ⟨_, rfl⟩
  case h_3 =>
    rw [Sem.run_bind] at h
    generalize Sem.run P _ w = r at h
    cases r <;> simp [Result.andThen] at h
    exact ⟨_, h.1.symm⟩
  case h_17 =>
    dsimp only at h
    split at h
    · simp [go_sem] at h
    · simp [go_sem] at h
    · simp [go_sem] at h
    · split at h
      · simp [go_sem] at h
      · rw [Sem.run_bind] at h
        generalize Sem.run P program w = r1 at h
        cases r1 with
        | halt x w1 => simp [Result.andThen] at h
        | ok P1 w1 =>
          simp only [Result.andThen] at h
          rw [Sem.run_bind] at h
          generalize Sem.run P (nilAhead _ _ _ _) w1 = r2 at h
          cases r2 with
          | halt x w2 => simp [Result.andThen] at h
          | ok b w2 =>
            simp only [Result.andThen] at h
            split at h
            · rw [Sem.run_bind] at h
              generalize Sem.run P (unsupported _) w2 = r3 at h
              cases r3 with
              | halt x w3 => simp [Result.andThen] at h
              | ok b3 w3 => simp only [Result.andThen] at h; cases h; exact ⟨_, rfl⟩
            · cases h; exact ⟨_, rfl⟩
      · cases h; exact ⟨_, rfl⟩
    · cases h; exact ⟨_, rfl⟩
  case h_18 =>
    split at hv
    all_goals first
      | (cases hv; done)
      | (simp only [resolve, Sem.run_bind, Sem.run_pure, Result.andThen, invoke, builtin] at h
         exact run_value (by rw [Sem.run_bind]; exact h))
  case h_19 => cases hv

section
variable {P : Program} {ops : Array Oper} {Q : Exit → Act → World → Prop} {md : Region.Mode} {n : Nat}

/-- What lay in w lies unturned in w', but for the blocks of M. -/
structure Bel (M : List Nat) (w w' : World) : Prop where
  os : w'.os = w.os
  tape : w'.tape = w.tape
  output : w'.output = w.output
  size : w.heap.size ≤ w'.heap.size
  block : ∀ k, k < w.heap.size → k ∉ M → w'.heap[k]? = w.heap[k]?
theorem Bel.refl (M : List Nat) (w : World) : Bel M w w := ⟨rfl, rfl, rfl, Nat.le_refl _, fun _ _ _ => rfl⟩
theorem Bel.trans {M : List Nat} {a b c : World} (h : Bel M a b) (k : Bel M b c) : Bel M a c :=
  ⟨k.os.trans h.os, k.tape.trans h.tape, k.output.trans h.output, Nat.le_trans h.size k.size, fun i hi hm => (k.block i (Nat.lt_of_lt_of_le hi h.size) hm).trans (h.block i hi hm)⟩
theorem Bel.of {M : List Nat} {w w' : World} (h : Below w.heap.size w w') : Bel M w w' := ⟨h.os, h.tape, h.output, h.size, fun k hk _ => h.block k hk⟩
theorem Bel.below {w w' : World} (h : Bel [] w w') : Below w.heap.size w w' := ⟨h.os, h.tape, h.output, h.size, fun k hk => h.block k hk (by simp)⟩
theorem Bel.store {M : List Nat} {w : World} {p : Addr} (hp : p.block ∈ M) (u : Value) : Bel M w (w.setCell p u) :=
  ⟨rfl, rfl, rfl, by simp [World.setCell], fun k _ hm => Below.heap_setCell _ _ _ _ (fun e => hm (e ▸ hp))⟩
/-- (A structure of its own, so that the walk's simp does not lay it apart.) -/
structure Reg where
  d : Nat
  os : Array Obj
  f : Nat → Obj
  deriving Inhabited
def regrow (w : World) (M : List Nat) (p : Reg) : World := { w with drawn := p.d, heap := (w.heap.mapIdx fun i o => if i ∈ M then p.f i else o) ++ p.os }
theorem bel_regrow (w : World) (M : List Nat) (p : Reg) : Bel M w (regrow w M p) := by
  refine ⟨rfl, rfl, rfl, by simp [regrow], fun k hk hm => ?_⟩
  simp only [regrow]
  rw [Array.getElem?_append_left (by simpa using hk), Array.getElem?_mapIdx]
  cases w.heap[k]? <;> simp [hm]
theorem regrow_of_bel {M : List Nat} {w w' : World} (h : Bel M w w') : ∃ p : Reg, w' = regrow w M p := by
  refine ⟨⟨w'.drawn, w'.heap.extract w.heap.size w'.heap.size, fun i => w'.heap.getD i default⟩, ?_⟩
  obtain ⟨heap', tape', drawn', os', output'⟩ := w'
  have e1 : os' = w.os := h.os
  have e2 : tape' = w.tape := h.tape
  have e3 : output' = w.output := h.output
  have hs : w.heap.size ≤ heap'.size := h.size
  have hb : ∀ k, k < w.heap.size → k ∉ M → heap'[k]? = w.heap[k]? := h.block
  subst e1 e2 e3
  simp only [regrow]
  congr 1
  apply Array.ext_getElem?
  intro k
  by_cases hk : k < w.heap.size
  · rw [Array.getElem?_append_left (by simpa using hk), Array.getElem?_mapIdx]
    have hk' : k < heap'.size := by omega
    by_cases hm : k ∈ M
    · rw [Array.getElem?_eq_getElem hk, Array.getElem?_eq_getElem hk']
      simp [hm, hk']
    · rw [hb k hk hm]
      cases w.heap[k]? <;> simp [hm]
  · rw [Array.getElem?_append_right (by simp; omega), Array.getElem?_extract]
    by_cases hk2 : k < heap'.size
    · simp only [Array.size_mapIdx]
      rw [if_pos (by omega)]; congr 1; omega
    · simp only [Array.size_mapIdx]
      rw [if_neg (by omega), Array.getElem?_eq_none (by omega)]
variable {M : List Nat}
/-- All worlds in which what lay in w, but for M, lies unturned. -/
abbrev Cls (M : List Nat) (w : World) : World → Prop := fun w' => ∃ p : Reg, w' = regrow w M p
theorem below_cls {w w' : World} (h : Bel M w w') : Cls M w w' := regrow_of_bel h

/-- The heads (below n), whichever comes up; behind the last of them L. -/
def wpX (P : Program) (md : Region.Mode) (ops : Array Oper) (Q : Exit → Act → World → Prop) (n : Nat) (M : List Nat) (L : Array Bool → Act → World → Prop) : Nat → Array Bool → Act → World → Prop
  | 0, listed, a, w => L listed a w
  | f + 1, listed, a, w => Region.ready md ops listed ≠ [] ∧ ∀ i ∈ Region.ready md ops listed, i < n ∧ wpOp P ops Q i (fun a' w' => Bel M w w' ∧ wpX P md ops Q n M L f (listed.setIfInBounds i true) a' w') a w

theorem wpOp_imp {Q' : Exit → Act → World → Prop} (hq : ∀ e a w, Q e a w → Q' e a w) {i : Nat} {K : Act → World → Prop} {a : Act} {w : World} (h : wpOp P ops Q i K a w) : wpOp P ops Q' i K a w := by
  unfold wpOp at *
  split
  · rename_i ho; simp only [ho] at h; exact h
  · rename_i o ho
    simp only [ho] at h
    split
    · rename_i hw
      simp only [hw, if_true] at h
      rcases h with h | ⟨h1, a0, w0, h2⟩
      · refine .inl ?_
        unfold Oper.wp at *
        generalize (execOp a.eval o).run P w = r at *
        cases r with
        | ok nx w' =>
          cases nx <;> simp only [Oper.upon] at h ⊢ <;>
            first
              | exact h
              | exact Calls.mono h (fun e w'' he => by
                  cases e with
                  | returned u => exact he
                  | panicked c => exact hq _ _ _ he
                  | outgrown => obtain ⟨a1, w1, h3⟩ := he; exact ⟨a1, w1, hq _ _ _ h3⟩)
        | halt x w' => cases x <;> simp only [Oper.upon] at h ⊢ <;> exact hq _ _ _ h
      · exact .inr ⟨h1, a0, w0, hq _ _ _ h2⟩
    · rename_i hw; simp only [hw] at h; exact h

theorem wpAny_of_X {Q' : Exit → Act → World → Prop} (hq : ∀ e a w, Q e a w → Q' e a w) {g : Nat} {L : Array Bool → Act → World → Prop} (hL : ∀ listed a w, L listed a w → wpAny P md ops Q' g listed a w) :
    ∀ (f : Nat) (listed : Array Bool) (a : Act) (w : World), wpX P md ops Q n M L f listed a w → wpAny P md ops Q' (f + g) listed a w
  | 0, listed, a, w, h => by rw [Nat.zero_add]; exact hL _ _ _ h
  | f + 1, listed, a, w, h => by
    rw [show f + 1 + g = (f + g) + 1 by omega]
    exact ⟨fun h0 => absurd h0 h.1, fun i hi => wpOp_imp hq (wpOp_mono (fun a' w' h' => wpAny_of_X hq hL f _ a' w' h'.2) (h.2 i hi).2)⟩

theorem yieldsIf_later {o : Oper} {v : Value} {a : Act} {w w' : World} (hy : YieldsIf P ops (Bel M w) o v a) (hb : Bel M w w') : YieldsIf P ops (Bel M w') o v a :=
  hy.imp (fun ⟨h1, h2⟩ => ⟨h1, fun W hW => h2 W (hb.trans hW)⟩) id

theorem wpX_first {i : Nat} {oi : Oper} {v : Value} {L : Array Bool → Act → World → Prop} (hi : ops[i]? = some oi) (hsel : ∀ (j : Nat) (o : Oper) cs b, ops[j]? = some o → o.op ≠ .select cs b)
    (hQ : ∀ c a w, Q (.panic c) (a.put oi.dst v) w → Q (.panic c) a w)
    (htail : ∀ listed, HeadInv md ops n listed → listed.getD i true = false → ∀ j ∈ Region.ready md ops listed, j < n) (hin : i < n)
    (hdone : ∀ listed a w, L listed a w → ∀ j ∈ Region.ready md ops listed, n ≤ j) :
    ∀ (f : Nat) (listed : Array Bool) (a : Act) (w : World), HeadInv md ops n listed →
      (∀ j oj, ops[j]? = some oj → j ≠ i → listed.getD j true = false → (∀ e ∈ oj.after, Region.binds md e = true → e.on ≠ i) → oi.apart ops oj = true) →
      i ∈ Region.ready md ops listed → YieldsIf P ops (Bel M w) oi v a →
      wpX P md ops Q n M L f (listed.setIfInBounds i true) (a.put oi.dst v) w → wpX P md ops Q n M L (f + 1) listed a w := by
  intro f
  induction f with
  | zero =>
    intro listed a w inv _ hr hy H
    refine ⟨fun h => (by rw [h] at hr; cases hr), fun j hj => ?_⟩
    have hjn := htail listed inv (mem_ready.1 hr).1 j hj
    refine ⟨hjn, ?_⟩
    by_cases hji : j = i
    · subst hji; exact hy.wpOp hi (Bel.refl _ _) ⟨Bel.refl _ _, H⟩
    · have := hdone _ _ _ H j (ready_mono hj hji)
      omega
  | succ f ih =>
    intro listed a w inv hfree hr hy H
    refine ⟨fun h => (by rw [h] at hr; cases hr), fun j hj => ?_⟩
    have hjn := htail listed inv (mem_ready.1 hr).1 j hj
    refine ⟨hjn, ?_⟩
    by_cases hji : j = i
    · subst hji; exact hy.wpOp hi (Bel.refl _ _) ⟨Bel.refl _ _, H⟩
    · have h1 := (H.2 j (ready_mono hj hji)).2
      obtain ⟨hjun, oj, hoj, hall⟩ := mem_ready.1 hj
      have hnot : ∀ e ∈ oj.after, Region.binds md e = true → e.on ≠ i := fun e he hb heq => by
        have h1 := hall e he hb
        rw [heq, getD_both (mem_ready.1 hr).1] at h1
        cases h1
      have h2 := wpOp_putIf hoj (hfree j oj hoj hji hjun hnot) (fun cs b => hsel i oi cs b hi) (fun cs b => hsel j oj cs b hoj) hQ hy h1
      have hfree' : ∀ k ok, ops[k]? = some ok → k ≠ i → (listed.setIfInBounds j true).getD k true = false →
          (∀ e ∈ ok.after, Region.binds md e = true → e.on ≠ i) → oi.apart ops ok = true := fun k ok hk hki hun hno => by
        refine hfree k ok hk hki ?_ hno
        by_cases hjk : j = k
        · subst hjk; exact hjun
        · rw [getD_set_ne true hjk] at hun; exact hun
      refine wpOp_mono (fun a' w' h3 => ⟨h3.2.1, ih (listed.setIfInBounds j true) a' w' (inv.set hj hjn) hfree' (ready_mono hr (Ne.symm hji)) (yieldsIf_later h3.1 h3.2.1) ?_⟩) h2
      rw [Array.setIfInBounds_comm _ _ hji]
      exact h3.2.2

/-- A plan: 'q': these are taken first, they only read; 'e': of these whichever comes up. -/
inductive Plan where
  | done
  | q (is : List Nat) (p : Plan)
  | e1 (i : Nat) (p : Plan)
  | e2 (i : Nat) (p : Plan) (j : Nat) (r : Plan)
  | e3 (i : Nat) (p : Plan) (j : Nat) (r : Plan) (k : Nat) (s : Plan)

def qok (md : Region.Mode) (ops : Array Oper) (n : Nat) : List Nat → Nat → Array Bool → (Nat → Array Bool → Bool) → Bool
  | [], f, listed, k => k f listed
  | i :: is, f, listed, k =>
    (match f with
     | 0 => false
     | f + 1 => (Region.ready md ops listed).contains i && Region.free md ops listed i && decide (i < n) && (match ops[i]? with | some o => valueOp o | none => false) &&
        qok md ops n is f (listed.setIfInBounds i true) k)

def Plan.ok (md : Region.Mode) (ops : Array Oper) (n : Nat) : Plan → Nat → Array Bool → Bool
  | .done, f, listed => decide (f = 0) && Region.seqB md ops (ops.size - n) n listed
  | .q is p, f, listed => qok md ops n is f listed (p.ok md ops n)
  | .e1 i p, f, listed => match f with | 0 => false | f + 1 => decide (Region.ready md ops listed = [i]) && decide (i < n) && p.ok md ops n f (listed.setIfInBounds i true)
  | .e2 i p j r, f, listed => match f with
    | 0 => false
    | f + 1 => decide (Region.ready md ops listed = [i, j]) && decide (i < n) && decide (j < n) && p.ok md ops n f (listed.setIfInBounds i true) && r.ok md ops n f (listed.setIfInBounds j true)
  | .e3 i p j r k s, f, listed => match f with
    | 0 => false
    | f + 1 => decide (Region.ready md ops listed = [i, j, k]) && decide (i < n) && decide (j < n) && decide (k < n) && p.ok md ops n f (listed.setIfInBounds i true) && r.ok md ops n f (listed.setIfInBounds j true) && s.ok md ops n f (listed.setIfInBounds k true)

def wpPlan (P : Program) (ops : Array Oper) (Q : Exit → Act → World → Prop) (n : Nat) (M : List Nat) : Plan → Act → World → Prop
  | .done, a, w => wpList P ops Q (ops.toList.drop n) a w
  | .q is p, a, w => wpQuiet P ops (Cls M w) (fun a' => wpPlan P ops Q n M p a' w) (is.filterMap fun i => ops[i]?) a
  | .e1 i p, a, w => wpOp P ops (Calm Q) i (fun a' w' => Bel M w w' ∧ wpPlan P ops Q n M p a' w') a w
  | .e2 i p j r, a, w => wpOp P ops (Calm Q) i (fun a' w' => Bel M w w' ∧ wpPlan P ops Q n M p a' w') a w ∧ wpOp P ops (Calm Q) j (fun a' w' => Bel M w w' ∧ wpPlan P ops Q n M r a' w') a w
  | .e3 i p j r k s, a, w => wpOp P ops (Calm Q) i (fun a' w' => Bel M w w' ∧ wpPlan P ops Q n M p a' w') a w ∧ wpOp P ops (Calm Q) j (fun a' w' => Bel M w w' ∧ wpPlan P ops Q n M r a' w') a w ∧ wpOp P ops (Calm Q) k (fun a' w' => Bel M w w' ∧ wpPlan P ops Q n M s a' w') a w

theorem yields_of_quiet {o : Oper} {a : Act} {w : World} {K : Act → Prop} (hv : valueOp o = true) (hw : Region.wanted o (yielded ops a.tmps) = true) (h : o.quiet P a (Cls M w) K) :
    ∃ v, YieldsIf P ops (Bel M w) o v a ∧ K (a.put o.dst v) := by
  obtain ⟨v, h1, h2⟩ := h
  refine ⟨v, .inl ⟨hw, fun W hW => ?_⟩, h2⟩
  have h3 := h1 W (below_cls hW)
  unfold Oper.quietAt at h3
  cases hr : (execOp a.eval o).run P W with
  | halt x w' => rw [hr] at h3; exact (h3 : False).elim
  | ok nx w' =>
    obtain ⟨u, rfl⟩ := valueOp_value hv hr
    rw [hr] at h3
    obtain ⟨rfl, rfl⟩ := h3
    rfl

theorem qok_sound {L : Array Bool → Act → World → Prop} {w : World} (hsel : Region.noSelect ops = true)
    (hQ : ∀ (o : Oper) (v : Value) c a w, Q (.panic c) (a.put o.dst v) w → Q (.panic c) a w)
    (htail : ∀ i, i < n → ∀ listed, HeadInv md ops n listed → listed.getD i true = false → ∀ j ∈ Region.ready md ops listed, j < n)
    (hdone : ∀ listed a w, L listed a w → ∀ j ∈ Region.ready md ops listed, n ≤ j) (k : Nat → Array Bool → Bool) (Kq : Act → Prop)
    (hk : ∀ f listed a, HeadInv md ops n listed → k f listed = true → Kq a → wpX P md ops Q n M L f listed a w) :
    ∀ (is : List Nat) (f : Nat) (listed : Array Bool) (a : Act), HeadInv md ops n listed → qok md ops n is f listed k = true →
      wpQuiet P ops (Cls M w) Kq (is.filterMap fun i => ops[i]?) a → wpX P md ops Q n M L f listed a w
  | [], f, listed, a, inv, h, hq => hk f listed a inv h hq
  | i :: is, 0, listed, a, inv, h, hq => by simp [qok] at h
  | i :: is, f + 1, listed, a, inv, h, hq => by
    simp only [qok, Bool.and_eq_true, decide_eq_true_eq] at h
    obtain ⟨⟨⟨⟨hr, hf⟩, hin⟩, hv⟩, hrest⟩ := h
    have hr' : i ∈ Region.ready md ops listed := by simpa using hr
    cases ho : ops[i]? with
    | none => simp [ho] at hv
    | some o =>
      simp only [ho] at hv
      simp only [List.filterMap_cons, ho] at hq
      unfold wpQuiet at hq
      have go : ∀ v, YieldsIf P ops (Bel M w) o v a → wpQuiet P ops (Cls M w) Kq (is.filterMap fun i => ops[i]?) (a.put o.dst v) → wpX P md ops Q n M L (f + 1) listed a w := fun v hy hK =>
        wpX_first ho (Region.noSelect_spec hsel) (hQ o v) (htail i hin) hin hdone f listed a w inv (Region.free_spec ho hf) hr' hy
          (qok_sound hsel hQ htail hdone k Kq hk is f _ _ (inv.set hr' hin) hrest hK)
      by_cases hw : Region.wanted o (yielded ops a.tmps) = true
      · rw [if_pos hw] at hq
        obtain ⟨v, hy, hK⟩ := yields_of_quiet hv hw hq
        exact go v hy hK
      · rw [if_neg hw] at hq
        exact go undef (.inr ⟨by simpa using hw, rfl⟩) hq

theorem plan_sound (hsel : Region.noSelect ops = true)
    (htail : ∀ i, i < n → ∀ listed, HeadInv md ops n listed → listed.getD i true = false → ∀ j ∈ Region.ready md ops listed, j < n) :
    ∀ (p : Plan) (f : Nat) (listed : Array Bool) (a : Act) (w : World), HeadInv md ops n listed → p.ok md ops n f listed = true → wpPlan P ops Q n M p a w →
      wpX P md ops (Calm Q) n M (fun listed a w => Region.seqB md ops (ops.size - n) n listed = true ∧ wpList P ops Q (ops.toList.drop n) a w) f listed a w
  | .done, f, listed, a, w, inv, h, hp => by
    simp only [Plan.ok, Bool.and_eq_true, decide_eq_true_eq] at h
    obtain ⟨rfl, hs⟩ := h
    exact ⟨hs, hp⟩
  | .q is p, f, listed, a, w, inv, h, hp =>
    qok_sound hsel (fun _ _ _ _ _ hp => hp) htail (fun _ _ _ hL => seqB_ready hL.1) (p.ok md ops n) (fun a' => wpPlan P ops Q n M p a' w)
      (fun f' listed' a' inv' hok hK => plan_sound hsel htail p f' listed' a' w inv' hok hK) is f listed a inv h hp
  | .e1 i p, 0, listed, a, w, inv, h, hp => by simp [Plan.ok] at h
  | .e1 i p, f + 1, listed, a, w, inv, h, hp => by
    simp only [Plan.ok, Bool.and_eq_true, decide_eq_true_eq] at h
    obtain ⟨⟨hr, hin⟩, hok⟩ := h
    refine ⟨fun h0 => (by rw [hr] at h0; cases h0), fun j hj => ?_⟩
    have hji : j = i := by rw [hr] at hj; simpa using hj
    subst hji
    refine ⟨hin, wpOp_mono (fun a' w' h' => ⟨h'.1, plan_sound hsel htail p f _ a' w' (inv.set hj hin) hok h'.2⟩) hp⟩
  | .e2 i p j r, 0, listed, a, w, inv, h, hp => by simp [Plan.ok] at h
  | .e2 i p j r, f + 1, listed, a, w, inv, h, hp => by
    simp only [Plan.ok, Bool.and_eq_true, decide_eq_true_eq] at h
    obtain ⟨⟨⟨⟨hr, hin⟩, hjn⟩, hok⟩, hok2⟩ := h
    refine ⟨fun h0 => (by rw [hr] at h0; cases h0), fun k hk => ?_⟩
    have hki : k = i ∨ k = j := by rw [hr] at hk; simpa using hk
    rcases hki with rfl | rfl
    · exact ⟨hin, wpOp_mono (fun a' w' h' => ⟨h'.1, plan_sound hsel htail p f _ a' w' (inv.set hk hin) hok h'.2⟩) hp.1⟩
    · exact ⟨hjn, wpOp_mono (fun a' w' h' => ⟨h'.1, plan_sound hsel htail r f _ a' w' (inv.set hk hjn) hok2 h'.2⟩) hp.2⟩
  | .e3 i p j r k s, 0, listed, a, w, inv, h, hp => by simp [Plan.ok] at h
  | .e3 i p j r k s, f + 1, listed, a, w, inv, h, hp => by
    simp only [Plan.ok, Bool.and_eq_true, decide_eq_true_eq] at h
    obtain ⟨⟨⟨⟨⟨⟨hr, hin⟩, hjn⟩, hkn⟩, hok⟩, hok2⟩, hok3⟩ := h
    refine ⟨fun h0 => (by rw [hr] at h0; cases h0), fun m hm => ?_⟩
    have hmi : m = i ∨ m = j ∨ m = k := by rw [hr] at hm; simpa using hm
    rcases hmi with rfl | rfl | rfl
    · exact ⟨hin, wpOp_mono (fun a' w' h' => ⟨h'.1, plan_sound hsel htail p f _ a' w' (inv.set hm hin) hok h'.2⟩) hp.1⟩
    · exact ⟨hjn, wpOp_mono (fun a' w' h' => ⟨h'.1, plan_sound hsel htail r f _ a' w' (inv.set hm hjn) hok2 h'.2⟩) hp.2.1⟩
    · exact ⟨hkn, wpOp_mono (fun a' w' h' => ⟨h'.1, plan_sound hsel htail s f _ a' w' (inv.set hm hkn) hok3 h'.2⟩) hp.2.2⟩

/-- The Bool that is asked once a region: n heads, then the tail. -/
def planB (md : Region.Mode) (ops : Array Oper) (n : Nat) (p : Plan) : Bool :=
  Region.noSelect ops && (decide (n = ops.size) || (decide (n < ops.size) && Region.sinkB md ops n && Region.chainB md ops n)) && p.ok md ops n n (Array.replicate ops.size false)

/-- **A region that draws its order goes by its plan.** -/
theorem wp_region_plan {id : Nat} {a : Act} {w : World} {l : List Oper} (n : Nat) (M : List Nat) (p : Plan) (hm : P.follows .mixedOrders = true) (hB : planB .any l.toArray n p = true)
    (h : wpPlan P l.toArray Q n M p a w.drew) : (Code.region id l.toArray true).wp P Q a w := by
  simp only [planB, Bool.and_eq_true, Bool.or_eq_true, decide_eq_true_eq] at hB
  obtain ⟨⟨hsel, hn⟩, hok⟩ := hB
  have hle : n ≤ l.toArray.size := by rcases hn with h1 | h1 <;> omega
  have inv0 : HeadInv .any l.toArray n (Array.replicate l.toArray.size false) :=
    ⟨by simp, fun j oj _ hl => (by rw [getD_replicate_false] at hl; cases hl), fun t _ ht => getD_in (by simpa using ht) (getD_replicate_false _ _)⟩
  have htail : ∀ i, i < n → ∀ listed, HeadInv .any l.toArray n listed → listed.getD i true = false → ∀ j ∈ Region.ready .any l.toArray listed, j < n := by
    intro i hin listed inv hun j hj
    rcases hn with h1 | ⟨⟨h1, hs⟩, hc⟩
    · have := (mem_ready.1 hj).2.choose_spec.1
      have hlt : j < l.toArray.size := (Array.getElem?_eq_some_iff.1 this).1
      omega
    · rcases Nat.lt_or_ge j n with h2 | h2
      · exact h2
      · exact absurd hj (tail_waits hs hc h1 inv _ i rfl hin hun j h2)
  have H := plan_sound (P := P) (Q := Q) (md := .any) hsel htail p n _ a _ inv0 hok h
  refine wp_region_any hm ?_
  have h3 := wpAny_of_X (P := P) (Q := Calm Q) (Q' := Q) Calm.imp (g := l.toArray.size - n) (fun listed a' w' hL => by
    have h2 := wpAny_of_seq (P := P) (ops := l.toArray) (md := .any) (Q' := Q) (l.drop n) n listed a' w' (fun j => by simp [List.getElem?_drop]) (by rw [show (l.drop n).length = l.toArray.size - n by simp]; exact hL.1) (by simpa using hL.2)
    rwa [show (l.drop n).length = l.toArray.size - n by simp] at h2) _ _ _ _ H
  rw [show n + (l.toArray.size - n) = l.toArray.size by omega] at h3
  exact h3

/-! ### The steps of a walk -/
def nth : List Oper → Nat → Option Oper
  | [], _ => none
  | x :: _, 0 => some x
  | _ :: r, n + 1 => nth r n
theorem nth_eq : ∀ (l : List Oper) (i : Nat), l.toArray[i]? = nth l i
  | [], i => by simp [nth]
  | x :: l, 0 => by simp [nth]
  | x :: l, n + 1 => by
    have := nth_eq l n
    simp only [List.getElem?_toArray] at this
    simp [nth, this]
section
variable {l0 : List Oper}
theorem plan_done {a : Act} {w : World} {tl : List Oper} (ht : l0.drop n = tl) (h : wpList P l0.toArray Q tl a w) : wpPlan P l0.toArray Q n M .done a w := by
  unfold wpPlan; rw [show l0.toArray.toList = l0 by simp, ht]; exact h
theorem plan_end {a : Act} {w : World} (ht : l0.drop n = []) (h : Q .normal a w) : wpPlan P l0.toArray Q n M .done a w := plan_done ht h
theorem plan_q {is : List Nat} {p : Plan} {a : Act} {w : World} {l : List Oper} (hl : is.filterMap (nth l0) = l)
    (h : ∀ K : Act → Prop, (∀ a', wpPlan P l0.toArray Q n M p a' w → K a') → wpQuiet P l0.toArray (Cls M w) K l a) : wpPlan P l0.toArray Q n M (.q is p) a w := by
  unfold wpPlan
  rw [show (fun i => l0.toArray[i]?) = nth l0 from funext (nth_eq l0), hl]
  exact h _ (fun _ h => h)
theorem plan_e {i : Nat} {p : Plan} {a : Act} {w : World} {o : Oper} (hi : nth l0 i = some o) (hw : Region.wanted o (yielded l0.toArray a.tmps) = true)
    (h : ∀ K : Act → World → Prop, (∀ a' w', Bel M w w' → wpPlan P l0.toArray Q n M p a' w' → K a' w') → o.wp P a w K (Calm Q)) : wpPlan P l0.toArray Q n M (.e1 i p) a w := by
  unfold wpPlan wpOp
  simp only [nth_eq, hi, if_pos hw]
  exact .inl (h _ (fun a' w' h1 h2 => ⟨h1, h2⟩))
theorem plan_e_skip {i : Nat} {p : Plan} {a : Act} {w : World} {o : Oper} (hi : nth l0 i = some o) (hw : Region.wanted o (yielded l0.toArray a.tmps) = false)
    (h : wpPlan P l0.toArray Q n M p (a.put o.dst undef) w) : wpPlan P l0.toArray Q n M (.e1 i p) a w := by
  unfold wpPlan wpOp
  simp only [nth_eq, hi, hw]
  exact ⟨Bel.refl _ _, h⟩
theorem plan_e2 {i j : Nat} {p r : Plan} {a : Act} {w : World} (h1 : wpPlan P l0.toArray Q n M (.e1 i p) a w) (h2 : wpPlan P l0.toArray Q n M (.e1 j r) a w) : wpPlan P l0.toArray Q n M (.e2 i p j r) a w := by
  unfold wpPlan at h1 h2 ⊢
  exact ⟨h1, h2⟩
theorem plan_e3 {i j k : Nat} {p r s : Plan} {a : Act} {w : World} (h1 : wpPlan P l0.toArray Q n M (.e1 i p) a w) (h2 : wpPlan P l0.toArray Q n M (.e1 j r) a w) (h3 : wpPlan P l0.toArray Q n M (.e1 k s) a w) : wpPlan P l0.toArray Q n M (.e3 i p j r k s) a w := by
  unfold wpPlan at h1 h2 h3 ⊢
  exact ⟨h1, h2, h3⟩
end

/-! ### Facts in every world of the class -/
theorem cls_cell {w : World} {a : Addr} {v : Value} (h : w.cell? a = some v) (hm : a.block ∉ M := by simp) (p : Reg) : (regrow w M p).cell? a = some v := by
  have hb := (bel_regrow w M p).block a.block (block_lt_of_cell h) hm
  rw [World.cell?_of_block hb]; exact h
theorem cell0 {w : World} {a : Addr} {v : Value} (h : w.cell? a = some v) (p : Reg) : (regrow w [] p).cell? a = some v := cls_cell h (by simp) p
end
end Go.Dr

/- Slices that read as lists; worlds in which what lay lies unturned. -/
namespace Go.Bs
open Go.RowKit Go.Sort Go.Pl

theorem ret_congr {u v : Value} (h : u = v) : Ending.returned u = .returned v := by rw [h]
theorem int_congr {k : IntKind} {a b : Int} (h : a = b) : Value.int k a = Value.int k b := by rw [h]
theorem bool_congr {a b : Bool} (h : a = b) : Value.bool a = Value.bool b := by rw [h]

theorem ext_trans {a b c : World} (h : Below a.heap.size a b) (k : Below b.heap.size b c) : Below a.heap.size a c := h.trans (k.mono h.size)
theorem ext_refl (w : World) : Below w.heap.size w w := Below.refl _ _
theorem ext_alloc (w : World) (o : Obj) : Below w.heap.size w (w.alloc o) := (Below.refl _ _).alloc (Nat.le_refl _) _
theorem ext_drew (w : World) : Below w.heap.size w w.drew := (Below.refl _ _).drew
theorem bcell {W w1 : World} (hb : Below W.heap.size W w1) : (∀ b o, b < W.heap.size → w1.cell? ⟨b, o, none⟩ = W.cell? ⟨b, o, none⟩) ∧ (∀ b o, b < W.heap.size → w1.frozen? ⟨b, o, none⟩ = W.frozen? ⟨b, o, none⟩) :=
  ⟨fun b o h => hb.cell (p := ⟨b, o, none⟩) h, fun b o h => hb.frozen (p := ⟨b, o, none⟩) h⟩
theorem cell_lt {w : World} {b o : Nat} {v : Value} (h : w.cell? ⟨b, o, none⟩ = some v) : b < w.heap.size := block_lt_of_cell h
theorem cell_ext {w w' : World} {b o : Nat} {v : Value} (h : w.cell? ⟨b, o, none⟩ = some v) (hb : Below w.heap.size w w') : w'.cell? ⟨b, o, none⟩ = some v :=
  (hb.cell (p := ⟨b, o, none⟩) (cell_lt h)).trans h

/-- From A on lie the elements of l, each sz cells long. -/
def Cells {α : Type} (w : World) (A : Option Addr) (sz : Nat) (enc : α → List Value) (l : List α) : Prop :=
  ∀ i x, l[i]? = some x → ∃ b off, A = some ⟨b, off, none⟩ ∧ ∀ j y, (enc x)[j]? = some y → w.cell? ⟨b, off + (i * sz + j), none⟩ = some y

def encI (x : Int) : List Value := [.int .i64 x]

section
variable {α : Type} {w w' : World} {A : Option Addr} {sz : Nat} {enc : α → List Value} {l : List α}
theorem Cells.nil : Cells w A sz enc ([] : List α) := fun i x h => by simp at h
theorem Cells.keep (h : Cells w A sz enc l) (hk : ∀ p : Addr, p.block < w.heap.size → A.map (·.block) = some p.block → w'.cell? p = w.cell? p) : Cells w' A sz enc l := fun i x hi => by
  obtain ⟨b, off, hA, hc⟩ := h i x hi
  refine ⟨b, off, hA, fun j y hj => ?_⟩
  have := hc j y hj
  rw [hk _ (cell_lt this) (by rw [hA]; rfl)]; exact this
theorem Cells.ext (h : Cells w A sz enc l) (hb : Below w.heap.size w w') : Cells w' A sz enc l := h.keep fun _ hp _ => hb.cell hp
theorem Cells.alloc (h : Cells w A sz enc l) (o : Obj) : Cells (w.alloc o) A sz enc l := h.ext (ext_alloc w o)
theorem Cells.drew (h : Cells w A sz enc l) : Cells w.drew A sz enc l := h.ext (ext_drew w)
theorem Cells.setCell (h : Cells w A sz enc l) {p : Addr} (hp : A.map (·.block) ≠ some p.block) (u : Value) : Cells (w.setCell p u) A sz enc l :=
  h.keep fun q _ hq => World.cell?_setCell_other w p q u (fun e => by subst e; exact hp hq)
theorem Cells.at (h : Cells w A sz enc l) {k : Nat} (hk : k < l.length) : ∃ b off, A = some ⟨b, off, none⟩ ∧ ∀ j y, (enc l[k])[j]? = some y → w.cell? ⟨b, off + (k * sz + j), none⟩ = some y :=
  h k l[k] (List.getElem?_eq_getElem hk)
theorem Cells.at1 {enc : α → List Value} (h : Cells w A 1 enc l) {k : Nat} (hk : k < l.length) {v : Value} (he : enc l[k] = [v]) : ∃ b off, A = some ⟨b, off, none⟩ ∧ b < w.heap.size ∧ w.cell? ⟨b, off + k, none⟩ = some v := by
  obtain ⟨b, off, hA, hc⟩ := h.at hk
  rw [he] at hc
  have h0 := hc 0 v rfl
  simp only [Nat.mul_one, Nat.add_zero] at h0
  exact ⟨b, off, hA, cell_lt h0, h0⟩
theorem Cells.at2 {enc : α → List Value} (h : Cells w A 2 enc l) {k : Nat} (hk : k < l.length) {v0 v1 : Value} (he : enc l[k] = [v0, v1]) :
    ∃ b off, A = some ⟨b, off, none⟩ ∧ b < w.heap.size ∧ w.cell? ⟨b, off + k * 2, none⟩ = some v0 ∧ w.cell? ⟨b, off + k * 2 + 1, none⟩ = some v1 := by
  obtain ⟨b, off, hA, hc⟩ := h.at hk
  rw [he] at hc
  have h0 := hc 0 v0 rfl
  have h1 := hc 1 v1 rfl
  exact ⟨b, off, hA, cell_lt h0, h0, h1⟩
theorem Cells.at3 {enc : α → List Value} (h : Cells w A 3 enc l) {k : Nat} (hk : k < l.length) {v0 v1 v2 : Value} (he : enc l[k] = [v0, v1, v2]) :
    ∃ b off, A = some ⟨b, off, none⟩ ∧ b < w.heap.size ∧ w.cell? ⟨b, off + k * 3, none⟩ = some v0 ∧ w.cell? ⟨b, off + k * 3 + 1, none⟩ = some v1 ∧ w.cell? ⟨b, off + k * 3 + 2, none⟩ = some v2 := by
  obtain ⟨b, off, hA, hc⟩ := h.at hk
  rw [he] at hc
  have h0 := hc 0 v0 rfl
  exact ⟨b, off, hA, cell_lt h0, h0, hc 1 v1 rfl, hc 2 v2 rfl⟩
theorem Cells.at4 {enc : α → List Value} (h : Cells w A 4 enc l) {k : Nat} (hk : k < l.length) {v0 v1 v2 v3 : Value} (he : enc l[k] = [v0, v1, v2, v3]) :
    ∃ b off, A = some ⟨b, off, none⟩ ∧ b < w.heap.size ∧ w.cell? ⟨b, off + k * 4, none⟩ = some v0 ∧ w.cell? ⟨b, off + k * 4 + 1, none⟩ = some v1 ∧ w.cell? ⟨b, off + k * 4 + 2, none⟩ = some v2 ∧ w.cell? ⟨b, off + k * 4 + 3, none⟩ = some v3 := by
  obtain ⟨b, off, hA, hc⟩ := h.at hk
  rw [he] at hc
  have h0 := hc 0 v0 rfl
  exact ⟨b, off, hA, cell_lt h0, h0, hc 1 v1 rfl, hc 2 v2 rfl, hc 3 v3 rfl⟩
theorem Cells.at5 {enc : α → List Value} (h : Cells w A 5 enc l) {k : Nat} (hk : k < l.length) {v0 v1 v2 v3 v4 : Value} (he : enc l[k] = [v0, v1, v2, v3, v4]) :
    ∃ b off, A = some ⟨b, off, none⟩ ∧ b < w.heap.size ∧ w.cell? ⟨b, off + k * 5, none⟩ = some v0 ∧ w.cell? ⟨b, off + k * 5 + 1, none⟩ = some v1 ∧ w.cell? ⟨b, off + k * 5 + 2, none⟩ = some v2 ∧ w.cell? ⟨b, off + k * 5 + 3, none⟩ = some v3 ∧ w.cell? ⟨b, off + k * 5 + 4, none⟩ = some v4 := by
  obtain ⟨b, off, hA, hc⟩ := h.at hk
  rw [he] at hc
  have h0 := hc 0 v0 rfl
  exact ⟨b, off, hA, cell_lt h0, h0, hc 1 v1 rfl, hc 2 v2 rfl, hc 3 v3 rfl, hc 4 v4 rfl⟩

/-- A cut 's[lo:hi]'. -/
def cutA (A : Option Addr) (sz cap lo : Nat) : Option Addr := if cap = lo then A else A.map (·.add (lo * sz))
theorem map_add_zero (A : Option Addr) : A.map (fun x => x.add 0) = A := by cases A <;> rfl
theorem cutA_zero (A : Option Addr) (sz cap : Nat) : cutA A sz cap 0 = A := by
  unfold cutA; rw [Nat.zero_mul, map_add_zero]; split <;> rfl
theorem cutA_pos (A : Option Addr) {sz cap lo : Nat} (h : cap ≠ lo) : cutA A sz cap lo = A.map (fun x => x.add (lo * sz)) := by unfold cutA; rw [if_neg h]
theorem Cells.cut (h : Cells w A sz enc l) {cap lo hi : Nat} (h1 : lo ≤ hi) (h3 : hi ≤ cap) : Cells w (cutA A sz cap lo) sz enc ((l.drop lo).take (hi - lo)) := fun i x hi' => by
  rw [List.getElem?_take] at hi'
  split at hi'
  · rename_i hlt
    rw [List.getElem?_drop] at hi'
    obtain ⟨b, off, rfl, hc⟩ := h _ _ hi'
    unfold cutA
    rw [if_neg (by omega)]
    refine ⟨b, off + lo * sz, ?_, fun j y hj => ?_⟩
    · simp only [Option.map_some, Addr.add]
      split
      · rename_i h0; rw [h0]; rfl
      · rfl
    · have := hc j y hj
      rw [show off + lo * sz + (i * sz + j) = off + ((lo + i) * sz + j) by rw [Nat.add_mul]; omega]
      exact this
  · cases hi'
end

section
variable {P : Program}
theorem run_cut2 {t e : TypeId} {sz : Nat} (hu : P.underlying t = some (.slice e)) (hs : ∀ w, (sizeOf e).run P w = .ok sz w) (A : Option Addr) (n cap lo hi : Nat) (h1 : lo ≤ hi) (h2 : hi ≤ cap) (wx : World) :
    (Instr.slice t (.slice A n cap) (some (.int .i64 lo)) (some (.int .i64 hi)) none).run P wx = .ok (.slice (cutA A sz cap lo) (hi - lo) (cap - lo)) wx := by
  simp [Instr.slice, Instr.sliceBounds, Instr.sliceBound, asIntOf, run_underlying hu, hs, h1, h2, cutA]
theorem run_cut_hi {t e : TypeId} {sz : Nat} (hu : P.underlying t = some (.slice e)) (hs : ∀ w, (sizeOf e).run P w = .ok sz w) (A : Option Addr) (n cap hi : Nat) (h2 : hi ≤ cap) (wx : World) :
    (Instr.slice t (.slice A n cap) none (some (.int .i64 hi)) none).run P wx = .ok (.slice (cutA A sz cap 0) hi cap) wx := by
  simp [Instr.slice, Instr.sliceBounds, Instr.sliceBound, asIntOf, run_underlying hu, hs, h2, cutA]
theorem run_cut_lo {t e : TypeId} {sz : Nat} (hu : P.underlying t = some (.slice e)) (hs : ∀ w, (sizeOf e).run P w = .ok sz w) (A : Option Addr) (n cap lo : Nat) (h1 : lo ≤ n) (wx : World) :
    (Instr.slice t (.slice A n cap) (some (.int .i64 lo)) none none).run P wx = .ok (.slice (cutA A sz cap lo) (n - lo) (cap - lo)) wx := by
  simp [Instr.slice, Instr.sliceBounds, Instr.sliceBound, asIntOf, run_underlying hu, hs, h1, cutA]
end
theorem Cells.cut0 {α : Type} {w : World} {A : Option Addr} {sz : Nat} {enc : α → List Value} {l : List α} (h : Cells w A sz enc l) {cap hi : Nat} (h3 : hi ≤ cap) : Cells w (cutA A sz cap 0) sz enc (l.take hi) := by
  have := h.cut (cap := cap) (Nat.zero_le hi) h3
  simpa using this
end Go.Bs
namespace Go.Bs
open Go.RowKit Go.Pl
/-- What is asked of a predicate that a function is handed: at each element, in every world in which what lay in w lies unturned. -/
def PredB {α : Type} (P : Program) (g : Nat) (lb : Array Value) (encv : α → Value) (p : α → Bool) (w : World) (l : List α) : Prop :=
  ∀ (W : World) (x : α), x ∈ l → Below w.heap.size w W → Calls P g (#[encv x] ++ lb) W fun e w' => e = .returned (.bool (p x)) ∧ Below W.heap.size W w'
theorem PredB.later {α : Type} {P : Program} {g : Nat} {lb : Array Value} {encv : α → Value} {p : α → Bool} {w W : World} {l : List α} (h : PredB P g lb encv p w l) (hb : Below w.heap.size w W) : PredB P g lb encv p W l :=
  fun W' x hx hb' => h W' x hx (ext_trans hb hb')
def Ent (P : Program) (g : Nat) : Prop := ∀ args w, (callFunc g args).run P w = .ok (.enter g args) w
theorem Ent.of {P : Program} {g : Nat} (h : ∀ args w, (callFunc g args).run P w = .ok (.enter g args) w) : Ent P g := h
/-- The first index at which p holds, or -1. -/
def idxF {α : Type} (p : α → Bool) (l : List α) : Int := if l.any p then (l.findIdx p : Int) else -1
theorem idxF_hit {α : Type} {p : α → Bool} {l : List α} {k : Nat} (hk : k < l.length) (hp : p l[k] = true) (hn : ∀ x ∈ l.take k, p x = false) : idxF p l = k := by
  have h1 : l.any p = true := List.any_eq_true.2 ⟨_, List.getElem_mem hk, hp⟩
  have h2 : l.findIdx p = k := by
    rw [List.findIdx_eq hk]
    refine ⟨hp, fun j hj => ?_⟩
    have h3 : l[j]'(by omega) ∈ l.take k := List.mem_take_iff_getElem.2 ⟨j, by omega, rfl⟩
    simp [hn _ h3]
  simp [idxF, h1, h2]
theorem idxF_miss {α : Type} {p : α → Bool} {l : List α} (hn : ∀ x ∈ l, p x = false) : idxF p l = -1 := by
  have h1 : l.any p = false := List.any_eq_false.2 (fun x hx => by simp [hn x hx])
  simp [idxF, h1]
theorem idxF_nonneg {α : Type} (p : α → Bool) (l : List α) : decide (0 ≤ idxF p l) = l.any p := by
  unfold idxF
  cases l.any p <;> simp
theorem any_not {α : Type} (p : α → Bool) (l : List α) : (!l.any fun x => !p x) = l.all p := by
  induction l with
  | nil => rfl
  | cons x l ih => simp only [List.any_cons, List.all_cons, ← ih]; cases p x <;> simp
end Go.Bs
namespace Go.Bs
open Go.RowKit Go.Pl
/-- Block B is just these cells, none frozen. -/
def Blk (w : World) (B : Nat) (T : TypeId) (cs : List Value) : Prop := w.heap[B]? = some (.cells cs.toArray T (0, 0))
section
variable {w w' : World} {B T i : Nat} {cs : List Value}
theorem Blk.lt (h : Blk w B T cs) : B < w.heap.size := by
  rcases Nat.lt_or_ge B w.heap.size with h1 | h1
  · exact h1
  · unfold Blk at h; rw [Array.getElem?_eq_none h1] at h; cases h
theorem Blk.cell {v : Value} (h : Blk w B T cs) (hi : cs[i]? = some v) : w.cell? ⟨B, i, none⟩ = some v := by
  unfold Blk at h
  simp [World.cell?, h, hi]
theorem Blk.free (h : Blk w B T cs) (i : Nat) : w.frozen? ⟨B, i, none⟩ = false := by
  unfold Blk at h
  simp [World.frozen?, h]
theorem Blk.ext (h : Blk w B T cs) (hb : Below w.heap.size w w') : Blk w' B T cs := (hb.block B h.lt).trans h
theorem Blk.drew (h : Blk w B T cs) : Blk w.drew B T cs := h
theorem Blk.alloc (h : Blk w B T cs) (o : Obj) : Blk (w.alloc o) B T cs := h.ext (ext_alloc w o)
theorem Blk.new (w : World) (T : TypeId) (cs : List Value) : Blk (w.alloc (.cells cs.toArray T)) w.heap.size T cs := by
  show (w.heap.push _)[w.heap.size]? = _
  rw [Array.getElem?_push, if_pos rfl]
theorem Blk.other {p : Addr} (h : Blk w B T cs) (hp : B ≠ p.block) (u : Value) : Blk (w.setCell p u) B T cs := (Below.heap_setCell w p u B hp).trans h
theorem Blk.set (h : Blk w B T cs) (i : Nat) (u : Value) : Blk (w.setCell ⟨B, i, none⟩ u) B T (cs.set i u) := by
  unfold Blk at *
  simp [World.setCell, Array.getElem?_modify, h]
end
/-- A row of ints. -/
def IArr (w : World) (B T : Nat) (l : List Int) : Prop := Blk w B T (l.map (Value.int .i64))
section
variable {w w' : World} {B T i : Nat} {l : List Int}
theorem IArr.cell (h : IArr w B T l) {x : Int} (hi : l[i]? = some x) : w.cell? ⟨B, i, none⟩ = some (.int .i64 x) := Blk.cell h (by simp [hi])
theorem IArr.free (h : IArr w B T l) (i : Nat) : w.frozen? ⟨B, i, none⟩ = false := Blk.free h i
theorem IArr.ext (h : IArr w B T l) (hb : Below w.heap.size w w') : IArr w' B T l := Blk.ext h hb
theorem IArr.other {p : Addr} (h : IArr w B T l) (hp : B ≠ p.block) (u : Value) : IArr (w.setCell p u) B T l := Blk.other h hp u
theorem IArr.set (h : IArr w B T l) (i : Nat) (x : Int) : IArr (w.setCell ⟨B, i, none⟩ (.int .i64 x)) B T (l.set i x) := by
  have := Blk.set h i (.int .i64 x)
  unfold IArr
  rwa [List.map_set]
theorem IArr.cells (h : IArr w B T l) : Cells w (some ⟨B, 0, none⟩) 1 encI l := fun i x hi => ⟨B, 0, rfl, fun j y hj => by
  have hj0 : j = 0 := by
    rcases j with _ | j
    · rfl
    · simp [encI] at hj
  subst hj0
  simp only [encI, List.getElem?_cons_zero, Option.some.injEq] at hj
  subst hj
  simpa using h.cell hi⟩
end
/-- make([]int, x). -/
theorem run_mk {P : Program} {t e : TypeId} {i : TypeInfo} (ht : P.underlying t = some (.slice e)) (hi : P.info? e = some i) (hz : i.zero = some (.int .i64 0)) (hs : i.size = 1) (hby : i.bytes = 8) (x : Int) (h0 : 0 ≤ x) (h1 : x ≤ 1000000000000) (w : World) :
    (Instr.makeSlice t (.int .i64 x) (.int .i64 x)).run P w = .ok (.slice (some ⟨w.heap.size, 0, none⟩) x.toNat x.toNat) (w.alloc (.cells ((tab x.toNat fun _ => 0).map (Value.int .i64)).toArray e)) := by
  have hr := run_make (P := P) w t e i _ ht hi hz .i64 .i64 x x (by omega) (by omega) (by rw [hby]; omega) (by omega)
  rw [hr, hs]
  congr 3
  apply Array.ext
  · simp [size_madeCells, tab_len]
  · intro j h2 h3
    simp [madeCells, Value.cells, tab, Nat.mod_one]
end Go.Bs
namespace Go.Bs
theorem push2_0 (h : Array Obj) (a b : Obj) : ((h.push a).push b)[h.size]? = some a := by
  simp only [Array.getElem?_push, Array.size_push]; rw [if_neg (by omega), if_pos trivial]
theorem push2_1 (h : Array Obj) (a b : Obj) : ((h.push a).push b)[h.size + 1]? = some b := by
  simp only [Array.getElem?_push, Array.size_push]; rw [if_pos trivial]
theorem push3_0 (h : Array Obj) (a b c : Obj) : (((h.push a).push b).push c)[h.size]? = some a := by
  simp only [Array.getElem?_push, Array.size_push]; rw [if_neg (by omega), if_neg (by omega), if_pos trivial]
theorem push3_1 (h : Array Obj) (a b c : Obj) : (((h.push a).push b).push c)[h.size + 1]? = some b := by
  simp only [Array.getElem?_push, Array.size_push]; rw [if_neg (by omega), if_pos trivial]
theorem push3_2 (h : Array Obj) (a b c : Obj) : (((h.push a).push b).push c)[h.size + 1 + 1]? = some c := by
  simp only [Array.getElem?_push, Array.size_push]; rw [if_pos trivial]
end Go.Bs

/- A slice that the call itself makes by append. -/
namespace Go.Bs
open Go.RowKit Go.Sort Go.Pl

/-- The facts on a slice type and its element's. -/
def ElemT (P : Program) (t e : TypeId) (sz bytes : Nat) : Prop :=
  ∃ i z, P.underlying t = some (.slice e) ∧ P.info? e = some i ∧ i.zero = some z ∧ i.size = sz ∧ i.bytes = bytes ∧ z.cells.size = sz
theorem ElemT.mk {P : Program} {t e : TypeId} {sz bytes : Nat} {z : Value} (ht : P.underlying t = some (.slice e)) (h : (P.info? e).map (fun i => (i.zero, i.size, i.bytes)) = some (some z, sz, bytes)) (hz : z.cells.size = sz) : ElemT P t e sz bytes := by
  obtain ⟨i, hi, hz0, hz1, hz2⟩ := info_parts h
  exact ⟨i, z, ht, hi, hz0, hz1, hz2, hz⟩

/-- v is a slice of the call's own, from block base on, that reads as l. -/
def OwnL {α : Type} (w : World) (base : Nat) (e : TypeId) (sz : Nat) (enc : α → List Value) (v : Value) (l : List α) : Prop := w.ownsRow base e sz v l.length (l.flatMap enc)
section
variable {α : Type} {w w' : World} {base : Nat} {e : TypeId} {sz : Nat} {enc : α → List Value} {v : Value} {l : List α}
theorem OwnL.nil : OwnL w base e sz enc (.slice none 0 0) ([] : List α) := World.ownsRow_nil w base e sz
theorem OwnL.kept {row : Option Nat} (h : OwnL w base e sz enc v l) (hg : w.grownBy w' row) (hne : v.ownBlock = none ∨ v.ownBlock ≠ row) : OwnL w' base e sz enc v l := World.ownsRow.kept h hg hne
theorem grown_of_ext (hb : Below w.heap.size w w') (row : Option Nat) : w.grownBy w' row := ⟨hb.os, hb.tape, hb.output, hb.size, fun k hk _ => hb.block k hk⟩
theorem OwnL.ext (h : OwnL w base e sz enc v l) (hb : Below w.heap.size w w') : OwnL w' base e sz enc v l :=
  h.kept (grown_of_ext hb none) (by cases v.ownBlock <;> simp)
theorem OwnL.alloc (h : OwnL w base e sz enc v l) (o : Obj) : OwnL (w.alloc o) base e sz enc v l := h.ext (ext_alloc w o)
theorem OwnL.drew (h : OwnL w base e sz enc v l) : OwnL w.drew base e sz enc v l := h.ext (ext_drew w)
theorem OwnL.lt (h : OwnL w base e sz enc v l) {k : Nat} (hk : v.ownBlock = some k) : base ≤ k ∧ k < w.heap.size := World.ownsRow.lt h k hk
theorem flatMap_get (hen : ∀ x, (enc x).length = sz) : ∀ (l : List α) (i j : Nat) (x : α) (y : Value), l[i]? = some x → (enc x)[j]? = some y → (l.flatMap enc)[i * sz + j]? = some y
  | [], i, j, x, y, h, _ => by simp at h
  | a :: l, 0, j, x, y, h, hy => by
    simp only [List.getElem?_cons_zero, Option.some.injEq] at h
    subst h
    have hj : j < (enc a).length := (List.getElem?_eq_some_iff.1 hy).1
    rw [List.flatMap_cons, Nat.zero_mul, Nat.zero_add, List.getElem?_append_left hj]; exact hy
  | a :: l, i + 1, j, x, y, h, hy => by
    simp only [List.getElem?_cons_succ] at h
    have ih := flatMap_get hen l i j x y h hy
    rw [List.flatMap_cons, List.getElem?_append_right (by rw [hen, Nat.add_mul]; omega), hen, show (i + 1) * sz + j - sz = i * sz + j by rw [Nat.add_mul]; omega]
    exact ih
/-- The slice reads as l. -/
theorem OwnL.cells (h : OwnL w base e sz enc v l) (hen : ∀ x, (enc x).length = sz) : ∃ A c, v = .slice A l.length c ∧ l.length ≤ c ∧ c ≤ maxLen ∧ Cells w A sz enc l := by
  rcases h.2 with ⟨rfl, hn⟩ | ⟨g, cap, cur, rfl, hb, hg, hnc, hcm, hcs, htake⟩
  · refine ⟨none, 0, by rw [hn], by omega, by omega, fun i x hi => ?_⟩
    have : l = [] := List.length_eq_zero_iff.1 hn
    subst this
    simp at hi
  · refine ⟨some ⟨g, 0, none⟩, cap, rfl, hnc, hcm, fun i x hi => ⟨g, 0, rfl, fun j y hj => ?_⟩⟩
    have h1 := flatMap_get hen l i j x y hi hj
    rw [← htake] at h1
    have h2 : cur.toList[i * sz + j]? = some y := by
      rw [List.getElem?_take] at h1
      split at h1
      · exact h1
      · cases h1
    simp only [World.cell?, hg, Nat.zero_add]
    simpa using h2
theorem OwnL.block_ge (h : OwnL w base e sz enc v l) {A : Option Addr} {n c : Nat} (hv : v = .slice A n c) : ∀ k, A.map (·.block) = some k → base ≤ k ∧ k < w.heap.size := by
  intro k hk
  refine h.lt ?_
  rw [hv]
  cases A with
  | none => cases hk
  | some a => simpa [Value.ownBlock] using hk
end

/-- append(s, y) onto a slice of the call's own. -/
theorem app1 {P : Program} {ops : Array Oper} {rest : List Oper} {o : Oper} {a : Act} {Q : Exit → Act → World → Prop} {w : World} {α : Type} (enc : α → List Value) (t e : TypeId) (sz bytes : Nat) (hT : ElemT P t e sz bytes) (hsz : 0 < sz) (hby : bytes ≤ 1000)
    (hen : ∀ x, (enc x).length = sz) (h1c : ∀ x, ∀ u ∈ enc x, u.oneCell' = true) (hgd : o.guard = none) (s x : Operand)
    (ho : o.op = .call { callee := .builtin .append, args := #[s, x], argTypes := #[t, t] }) (base : Nat) (v : Value) (l : List α) (hs : a.eval s = v) (hown : OwnL w base e sz enc v l)
    (g : Nat) (hx : a.eval x = .slice (some ⟨g, 0, none⟩) 1 1) (y : α) (hc : ∀ j u, (enc y)[j]? = some u → w.cell? ⟨g, j, none⟩ = some u) (hlen : l.length ≤ 1000000) (hbase : base ≤ w.heap.size)
    (h : ∀ g' cap w', OwnL w' base e sz enc (.slice (some ⟨g', 0, none⟩) (l.length + 1) cap) (l ++ [y]) → Below base w w' → w.grownBy w' v.ownBlock → (v.ownBlock = some g' ∨ g' = w.heap.size) → wpList P ops Q rest (a.put o.dst (.slice (some ⟨g', 0, none⟩) (l.length + 1) cap)) w') :
    wpList P ops Q (o :: rest) a w := by
  obtain ⟨i, z, ht, hi, hz, hs1, hb1, hz1⟩ := hT
  have hmul : (l.length + 1) * bytes ≤ 1000001 * 1000 := Nat.mul_le_mul (by omega) hby
  refine wpList_append_lies w hgd s x t ho base e i z sz bytes ht hi hz hs1 hb1 hz1 hsz v l.length (l.flatMap enc) hs hown ⟨g, 0, none⟩ 1 1 (enc y) hx (by rw [hen]; omega) ?_ (h1c y) (by omega) (by unfold maxLen; omega) (by omega) hbase w.heap.size rfl ?_
  · intro j u hj
    have := hc j u hj
    unfold Addr.add
    split
    · rename_i h0; subst h0; exact this
    · simpa using this
  · intro g' cap w' hown' hgrow hat hlt
    refine h g' cap w' ?_ ?_ hgrow hat
    · unfold OwnL
      rw [List.length_append, List.flatMap_append]
      simpa using hown'
    · exact (Below.refl base w).grown hgrow hbase (fun k hk => (hown.lt hk).1)
end Go.Bs
namespace Go.Bs
open Go.RowKit
/-- A slice that reads as l and lies in memory that is newer than w. -/
def FreshL {α : Type} (w w' : World) (sz : Nat) (enc : α → List Value) (v : Value) (l : List α) : Prop :=
  ∃ A c, v = .slice A l.length c ∧ l.length ≤ c ∧ c ≤ maxLen ∧ Cells w' A sz enc l ∧ ∀ k, A.map (·.block) = some k → w.heap.size ≤ k ∧ k < w'.heap.size
theorem FreshL.of_own {α : Type} {w w' : World} {base : Nat} {e : TypeId} {sz : Nat} {enc : α → List Value} {v : Value} {l : List α} (h : OwnL w' base e sz enc v l) (hen : ∀ x, (enc x).length = sz) (hb : w.heap.size ≤ base) : FreshL w w' sz enc v l := by
  obtain ⟨A, c, hv, h1, h2, h3⟩ := h.cells hen
  refine ⟨A, c, hv, h1, h2, h3, fun k hk => ?_⟩
  have := h.block_ge hv k hk
  omega
theorem FreshL.nil {α : Type} (w w' : World) (sz : Nat) (enc : α → List Value) : FreshL w w' sz enc (.slice none 0 0) ([] : List α) :=
  ⟨none, 0, rfl, by simp, by omega, Cells.nil, fun k hk => by cases hk⟩
theorem FreshL.ext {α : Type} {w w' w'' : World} {sz : Nat} {enc : α → List Value} {v : Value} {l : List α} (h : FreshL w w' sz enc v l) (hb : Below w'.heap.size w' w'') : FreshL w w'' sz enc v l := by
  obtain ⟨A, c, hv, h1, h2, h3, h4⟩ := h
  exact ⟨A, c, hv, h1, h2, h3.ext hb, fun k hk => ⟨(h4 k hk).1, Nat.lt_of_lt_of_le (h4 k hk).2 hb.size⟩⟩
theorem FreshL.older {α : Type} {w0 w w' : World} {sz : Nat} {enc : α → List Value} {v : Value} {l : List α} (h : FreshL w w' sz enc v l) (hb : w0.heap.size ≤ w.heap.size) : FreshL w0 w' sz enc v l := by
  obtain ⟨A, c, hv, h1, h2, h3, h4⟩ := h
  exact ⟨A, c, hv, h1, h2, h3, fun k hk => ⟨Nat.le_trans hb (h4 k hk).1, (h4 k hk).2⟩⟩
theorem encI_len (x : Int) : (encI x).length = 1 := rfl
theorem encI_one (x : Int) : ∀ u ∈ encI x, u.oneCell' = true := by intro u hu; simp [encI] at hu; rw [hu]; rfl
theorem encI_cell {w : World} {g : Nat} {y : Int} (h : w.cell? ⟨g, 0, none⟩ = some (.int .i64 y)) : ∀ j u, (encI y)[j]? = some u → w.cell? ⟨g, j, none⟩ = some u := by
  intro j u hj
  rcases j with _ | j
  · simp [encI] at hj; rw [← hj]; exact h
  · simp [encI] at hj
end Go.Bs

/- Functions of four results. -/
namespace Go.Bs
open Go.RowKit Go.Sort
theorem res4 {fn : Func} {t u v x : Tmp} (h : fn.results = #[.tmp t, .tmp u, .tmp v, .tmp x]) (tmps : Array Value) (P : Program) (w : World) :
    (results fn tmps).run P w = .ok (.tuple #[tmps.getD t undef, tmps.getD u undef, tmps.getD v undef, tmps.getD x undef]) w := by simp [results, h]
end Go.Bs

/- append of a whole row of ints onto a row of the call's own. -/
namespace Go.Bs
open Go.RowKit Go.Sort Go.Pl

theorem run_app_zero {P : Program} {w : World} {t e : TypeId} {i : TypeInfo} (ht : P.underlying t = some (.slice e)) (hi : P.info? e = some i) (ty : TypeId) (A X : Option Addr) (n d c : Nat) (hnd : n ≤ d) :
    (Builtin.append_ #[t, t] ty #[.slice A n d, .slice X 0 c]).run P w = .ok (.slice A n d) w := by
  have hl : ∀ a, (loadCells a 0).run P w = .ok #[] w := fun a => by simp [loadCells, loadCellsFrom]
  cases A <;> cases X <;> simp [Builtin.append_, run_underlying ht, sizeOf, typeInfo, hi, Builtin.lenOf, Builtin.firstCells, hnd, hl, storeCells, Result.andThen]
theorem app_ints {P : Program} {ops : Array Oper} {rest : List Oper} {o : Oper} {a : Act} {Q : Exit → Act → World → Prop} {w : World} (t e : TypeId) (hT : ElemT P t e 1 8)
    (hgd : o.guard = none) (s x : Operand)
    (ho : o.op = .call { callee := .builtin .append, args := #[s, x], argTypes := #[t, t] }) (base : Nat) (v : Value) (l : List Int) (hs : a.eval s = v) (hown : OwnL w base e 1 encI v l)
    (X : Option Addr) (m c : Nat) (l2 : List Int) (hm : l2.length = m) (hx : a.eval x = .slice X m c) (hc : Cells w X 1 encI l2) (hlen : l.length + m ≤ 1000000000000) (hbase : base ≤ w.heap.size)
    (h : ∀ v' w', OwnL w' base e 1 encI v' (l ++ l2) → Below base w w' → w.grownBy w' v.ownBlock → ((v' = v ∧ w' = w) ∨ ∃ g cap, v' = .slice (some ⟨g, 0, none⟩) (l.length + m) cap ∧ (v.ownBlock = some g ∨ g = w.heap.size)) → wpList P ops Q rest (a.put o.dst v') w') :
    wpList P ops Q (o :: rest) a w := by
  obtain ⟨i, z, ht, hi, hz, hs1, hb1, hz1⟩ := hT
  cases m with
  | zero =>
    have hl2 : l2 = [] := List.length_eq_zero_iff.1 hm
    subst hl2
    obtain ⟨A, d, rfl, hd, _⟩ := hown.cells encI_len
    have hrun := run_app_zero (P := P) (w := w) ht hi o.type A X l.length d c hd
    refine wpList_plain hgd fun K hK => ?_
    unfold Oper.wp
    simp [execOp, ho, resolve, invoke, builtin, hs, hx, hrun, Result.andThen]
    exact hK _ _ (h _ w (by simpa using hown) (Below.refl _ _) ⟨rfl, rfl, rfl, Nat.le_refl _, fun _ _ _ => rfl⟩ (.inl ⟨rfl, rfl⟩))
  | succ m =>
    obtain ⟨b, off, rfl, -⟩ := hc.at (k := 0) (by omega)
    refine wpList_append_lies w hgd s x t ho base e i z 1 8 ht hi hz hs1 hb1 hz1 (by decide) v l.length (l.flatMap encI) hs hown ⟨b, off, none⟩ (m + 1) c (l2.flatMap encI) hx ?_ ?_ ?_ (by omega) (by unfold maxLen; omega) (by omega) hbase w.heap.size rfl ?_
    · have : ∀ k : List Int, (k.flatMap encI).length = k.length := fun k => by induction k with | nil => rfl | cons y k ih => simp [List.flatMap_cons, ih, encI_len]; omega
      rw [this]; omega
    · have hfm : ∀ k : List Int, k.flatMap encI = k.map (Value.int .i64) := fun k => by induction k with | nil => rfl | cons y k ih => rw [List.flatMap_cons, ih]; rfl
      intro j u hj
      rw [hfm] at hj
      obtain ⟨y, hy, rfl⟩ : ∃ y, l2[j]? = some y ∧ Value.int .i64 y = u := by simpa using hj
      obtain ⟨b', off', e', hcc⟩ := hc j y hy
      cases e'
      have := hcc 0 _ rfl
      unfold Addr.add
      split
      · rename_i h0; subst h0; simpa using this
      · simpa using this
    · intro u hu
      obtain ⟨y, hy, hu⟩ := List.mem_flatMap.1 hu
      exact encI_one y u hu
    · intro g' cap w' hown' hgrow hat hlt
      refine h _ w' ?_ ((Below.refl base w).grown hgrow hbase (fun k hk => (hown.lt hk).1)) hgrow (.inr ⟨g', cap, rfl, hat⟩)
      unfold OwnL
      rw [List.length_append, List.flatMap_append, hm]
      exact hown'
end Go.Bs

/- append of one int onto a row of the call's own: in place, or into a new row; which of the two is told. -/
namespace Go.Bs
open Go.RowKit Go.Sort Go.Pl

section
variable {P : Program} {w : World}
theorem run_append_two (base : Nat) (t ty e : TypeId) (i : TypeInfo) (z : Value) (size bytes : Nat) (ht : P.underlying t = some (.slice e)) (hi : P.info? e = some i) (hz : i.zero = some z)
    (hsize : i.size = size) (hby : i.bytes = bytes) (hzs : z.cells.size = size) (hsz : 0 < size)
    (v : Value) (n : Nat) (xs : List Value) (hown : w.ownsRow base e size v n xs)
    (a : Addr) (m c : Nat) (news : List Value) (hl : news.length = m * size) (hnews : ∀ j u, news[j]? = some u → w.cell? (a.add j) = some u) (h1 : ∀ u ∈ news, u.oneCell' = true)
    (hm : 0 < m) (h63 : n + m ≤ maxLen) (hbytes : (n + m) * bytes ≤ 140737488355328) (hbase : base ≤ w.heap.size) :
    (∃ g cap w', v = .slice (some ⟨g, 0, none⟩) n cap ∧ (Builtin.append_ #[t, t] ty #[v, .slice (some a) m c]).run P w = .ok (.slice (some ⟨g, 0, none⟩) (n + m) cap) w' ∧
      w'.ownsRow base e size (.slice (some ⟨g, 0, none⟩) (n + m) cap) (n + m) (xs ++ news) ∧ w.grownBy w' (some g)) ∨
    (∃ cap w', (Builtin.append_ #[t, t] ty #[v, .slice (some a) m c]).run P w = .ok (.slice (some ⟨w.heap.size, 0, none⟩) (n + m) cap) w' ∧
      w'.ownsRow base e size (.slice (some ⟨w.heap.size, 0, none⟩) (n + m) cap) (n + m) (xs ++ news) ∧ w.grownBy w' none) := by
  subst hsize
  subst hby
  have hsmall : n + m ≤ 9223372036854775807 := by simp only [maxLen] at h63; omega
  have hlen : (xs ++ news).length = (n + m) * i.size := by rw [List.length_append, hown.1, hl, Nat.add_mul]
  have grown : ∀ (old : Nat), old < n + m →
      (w.drew.alloc (.cells (xs.toArray ++ news.toArray ++ Builtin.zeroCells z.cells (grownCap w (n + m) old e - (n + m))) e)).ownsRow base e i.size
        (.slice (some ⟨w.heap.size, 0, none⟩) (n + m) (grownCap w (n + m) old e)) (n + m) (xs ++ news) ∧
      w.grownBy (w.drew.alloc (.cells (xs.toArray ++ news.toArray ++ Builtin.zeroCells z.cells (grownCap w (n + m) old e - (n + m))) e)) none := by
    intro old ho
    have hge := grownCap_ge w (n + m) old e
    have hcm : grownCap w (n + m) old e ≤ maxLen := grownCap_le_maxLen w (n + m) old e h63
    refine ⟨⟨hlen, .inr ⟨w.heap.size, _, _, rfl, hbase, heap_alloc_new w.drew _, hge, hcm, ?_, ?_⟩⟩, ⟨rfl, rfl, rfl, by simp, fun k hk _ => _root_.Go.heap_alloc_old w.drew _ hk⟩⟩
    · simp only [Array.size_append, List.size_toArray, size_zeroCells, hzs, hown.1, hl, ← Nat.add_mul]
      congr 1
      omega
    · simp only [Array.toList_append, List.append_assoc]
      rw [← List.append_assoc, ← hlen]
      exact List.take_left
  rcases hown.2 with ⟨rfl, rfl⟩ | ⟨g, cap, cur, rfl, hbg, hg, hnc, hcm, hcs, htake⟩
  · have hx : xs = [] := List.eq_nil_of_length_eq_zero (by simpa using hown.1)
    subst hx
    right
    have hr := run_append_nil (P := P) w t ty e i z ht hi hz a m c news hl hnews (by omega) (by omega) (by have hb := hbytes; simp only [Nat.zero_add] at hb; omega)
    have hgr := grown 0 (by omega)
    simp only [Nat.zero_add, List.nil_append, Array.empty_append] at hgr ⊢
    exact ⟨_, _, hr, hgr.1, hgr.2⟩
  · by_cases hroom : n + m ≤ cap
    · left
      have hfit : n * i.size + news.length ≤ cur.size := by rw [hl, hcs, ← Nat.add_mul]; exact Nat.mul_le_mul_right _ hroom
      have hr := run_append_room (P := P) w t ty e i ht hi g n cap cur hg a m c news hl hnews h1 hroom hfit
      refine ⟨g, cap, _, rfl, hr, ⟨hlen, .inr ⟨g, cap, _, rfl, hbg, setRow_heap w g cur _ e _ hg, hroom, hcm, ?_, ?_⟩⟩, ⟨rfl, rfl, rfl, by simp, fun k _ hk => setRow_other w g k _ (fun e => hk (by simp [e]))⟩⟩
      · simp only [List.size_toArray, List.length_append, List.length_take, List.length_drop, Array.length_toList]
        omega
      · rw [htake, ← hlen]
        exact List.take_left
    · right
      have holds : ∀ j u, xs[j]? = some u → w.cell? ((⟨g, 0, none⟩ : Addr).add j) = some u := hown.cells (g := g) rfl
      have hr := run_append_grow (P := P) w t ty e i z ht hi hz ⟨g, 0, none⟩ n cap xs hown.1 holds a m c news hl hnews (by omega) (by omega) (growslice_fits (by omega) hbytes)
      have hgr := grown cap (by omega)
      exact ⟨_, _, hr, hgr.1, hgr.2⟩
end

/-- append(s, y) at an operation: in place, or into a new row. -/
theorem app1_two {P : Program} {o : Oper} {a : Act} {K : Act → World → Prop} {Q : Exit → Act → World → Prop} {w : World} (t e : TypeId) (hT : ElemT P t e 1 8) (s x : Operand)
    (ho : o.op = .call { callee := .builtin .append, args := #[s, x], argTypes := #[t, t] }) (base : Nat) (v : Value) (l : List Int) (hs : a.eval s = v) (hown : OwnL w base e 1 encI v l)
    (g : Nat) (hx : a.eval x = .slice (some ⟨g, 0, none⟩) 1 1) (y : Int) (hc : w.cell? ⟨g, 0, none⟩ = some (.int .i64 y)) (hlen : l.length ≤ 1000000) (hbase : base ≤ w.heap.size)
    (h : ∀ v' w', OwnL w' base e 1 encI v' (l ++ [y]) → ((∃ g' cap, v = .slice (some ⟨g', 0, none⟩) l.length cap ∧ v' = .slice (some ⟨g', 0, none⟩) (l.length + 1) cap ∧ w.grownBy w' (some g')) ∨ (∃ cap, v' = .slice (some ⟨w.heap.size, 0, none⟩) (l.length + 1) cap ∧ w.grownBy w' none)) → K (a.put o.dst v') w') : o.wp P a w K Q := by
  obtain ⟨i, z, ht, hi, hz, hs1, hb1, hz1⟩ := hT
  have key := run_append_two (P := P) (w := w) base t o.type e i z 1 8 ht hi hz hs1 hb1 hz1 (by decide) v l.length (l.flatMap encI) hown ⟨g, 0, none⟩ 1 1 (encI y) rfl ?_ (encI_one y) (by decide) (by unfold maxLen; omega) (by omega) hbase
  · rcases key with ⟨g', cap, w', hv, hr, h2, h3⟩ | ⟨cap, w', hr, h2, h3⟩
    · unfold Oper.wp execOp
      simp only [ho, resolve, invoke, builtin, Sem.run_bind, Sem.run_pure, Result.andThen_ok, List.map_toArray, List.map_cons, List.map_nil, hs, hx, hr]
      refine h _ _ ?_ (.inl ⟨g', cap, hv, rfl, h3⟩)
      unfold OwnL
      rw [List.length_append, List.flatMap_append]
      simpa using h2
    · unfold Oper.wp execOp
      simp only [ho, resolve, invoke, builtin, Sem.run_bind, Sem.run_pure, Result.andThen_ok, List.map_toArray, List.map_cons, List.map_nil, hs, hx, hr]
      refine h _ _ ?_ (.inr ⟨cap, rfl, h3⟩)
      unfold OwnL
      rw [List.length_append, List.flatMap_append]
      simpa using h2
  · intro j u hj
    have := encI_cell hc j u hj
    unfold Addr.add
    split
    · rename_i h0; subst h0; exact this
    · simpa using this
/-- What is left of a row when its last int is no longer counted. -/
theorem OwnL.back {w : World} {base : Nat} {e : TypeId} {g n cap : Nat} {l : List Int} {y : Int} (hn : l.length = n) (h : OwnL w base e 1 encI (.slice (some ⟨g, 0, none⟩) (n + 1) cap) (l ++ [y])) : OwnL w base e 1 encI (.slice (some ⟨g, 0, none⟩) n cap) l := by
  obtain ⟨h1, h2⟩ := h
  have hfm : ∀ k : List Int, (k.flatMap encI).length = k.length := fun k => by induction k with | nil => rfl | cons y k ih => simp [List.flatMap_cons, ih, encI_len]; omega
  refine ⟨by rw [hfm]; omega, ?_⟩
  rcases h2 with ⟨h2, _⟩ | ⟨g', cap', cur, hv, hb, hg, hnc, hcm, hcs, htk⟩
  · cases h2
  · simp only [Value.slice.injEq, Option.some.injEq, Addr.mk.injEq] at hv
    obtain ⟨⟨rfl, -, -⟩, -, rfl⟩ := hv
    refine .inr ⟨g, cap, cur, by rw [hn], hb, hg, by simp at hnc; omega, hcm, hcs, ?_⟩
    rw [List.length_append, List.flatMap_append] at htk
    have h3 := congrArg (List.take l.length) htk
    rw [List.take_take] at h3
    have h4 : List.take l.length (l.flatMap encI ++ [y].flatMap encI) = l.flatMap encI := by
      rw [← hfm l]; exact List.take_left
    rw [h4] at h3
    rw [← h3]
    congr 1
    simp
end Go.Bs

/- A scope without jumps, inside a fence. -/
namespace Go
section
variable {F : Fence} {n : Nat} {P : Program} {a : Act} {w : World} {Q : Exit → Act → World → Prop}
theorem stepR_scope {b : Frame} {k : List Item} {cs : List Frame} {c : Code} : step P (lone (b.atR a (.code (.scope c) :: k)) cs w) = .next (lone (b.atR a (.code c :: .inScope c :: k)) cs w) :=
  step_lone_go (by simp [stepG, stepG.exec, Frame.atR])
theorem stepR_inScope {b : Frame} {k : List Item} {cs : List Frame} {c : Code} : step P (lone (b.atR a (.inScope c :: k)) cs w) = .next (lone (b.atR a k) cs w) :=
  step_lone_go (by simp [stepG, stepG.exec, Frame.atR])
theorem wpIn_scope_straight {c : Code} (h : c.wpIn F n P (Exit.noGoto Q) a w) : (Code.scope c).wpIn F n P Q a w := by
  intro b k cs hro hb hr
  have h0 : (lone (b.atR a (.code (.scope c) :: k)) cs w).fenced P F := fenced_calm hb hr rfl
  obtain ⟨e, a₁, w₁, hq, harr⟩ := h b (.inScope c :: k) cs hro hb hr
  cases e with
  | normal => exact ⟨.normal, a₁, w₁, hq, .head h0 stepR_scope (StepsIn.trans harr (.one (fenced_calm hb hr rfl) stepR_inScope))⟩
  | exit id =>
    have hx : exitTo id (.inScope c :: k) = exitTo id k := by simp [exitTo]
    exact ⟨.exit id, a₁, w₁, hq, fun k' hk => .head h0 stepR_scope (harr.1 k' (by rw [hx]; exact hk)),
      fun hr' hk => let ⟨k₁, h1, h2⟩ := harr.2 hr' (by rw [hx]; exact hk); ⟨k₁, h1, .head h0 stepR_scope h2⟩⟩
  | goto l => exact hq.elim
  | ret => exact ⟨_, a₁, w₁, hq, .of_steps (.one h0 stepR_scope) harr⟩
  | panic ch => exact ⟨_, a₁, w₁, hq, .of_steps (.one h0 stepR_scope) harr⟩
  | outgrown => exact ⟨_, a₁, w₁, hq, .of_steps (.one h0 stepR_scope) harr⟩
end
end Go

/- A region that draws its order, inside the widest fence (so in a round of a range over a function). -/
namespace Go.Dr
open Go.RowKit Go.Sort

section
variable {F : Fence} {m : Nat} {P : Program} {ops : Array Oper} {Q : Exit → Act → World → Prop} {md : Region.Mode}

def noDefer (o : Oper) : Bool := match o.op with | .defer _ => false | _ => true
theorem noDefer_spec {o : Oper} (h : noDefer o = true) : ∀ c, o.op ≠ .defer c := fun c e => by simp [noDefer, e] at h

theorem callsF (hF : F.plain = Fence.wide) {f : FuncId} {args : Array Value} {w : World} {R : Ending → World → Prop} (h : Calls P f args w R) : CallsIn F m P f args w R := by
  have h1 : CallsIn F.plain m P f args w R := by rw [hF]; exact callsIn_wide.2 h
  exact h1
theorem rowsF (hF : F.plain = Fence.wide) {row : String} {args : Array Value} {w : World} {R : Value → World → Prop} (h : Rows P row args w R) : RowsIn F m P row args w R := by
  have h1 : RowsIn F.plain m P row args w R := by
    rw [hF]
    exact fun c cs _ => let ⟨v, w', r, s⟩ := h c cs; ⟨v, w', r, stepsIn_wide.2 s⟩
  exact h1
theorem fnF (hF : F.plain = Fence.wide) (f : FuncId) : F.fn f := by
  have h1 : F.plain.fn f := by rw [hF]; trivial
  exact h1
theorem depthF (hF : F.plain = Fence.wide) {p : Prop} : F.depth.isSome = true → p := by
  have h1 : F.plain.depth = none := by rw [hF]; rfl
  have h2 : F.depth = none := h1
  rw [h2]; intro h; cases h

theorem opIn (hF : F.plain = Fence.wide) {o : Oper} (hd : noDefer o = true) {a : Act} {w : World} {K : Act → World → Prop} (h : o.wp P a w K Q) : o.wpIn F m P a w K Q := by
  refine ⟨fun f _ => fnF hF f, ?_⟩
  rw [Oper.semAt_eq _ _ _ (noDefer_spec hd)]
  unfold Oper.wp at h
  generalize (execOp a.eval o).run P w = r at *
  cases r with
  | ok x w' =>
    cases x <;> simp only [Oper.upon, Oper.uponIn] at h ⊢ <;>
      first
        | exact h
        | exact ⟨depthF hF, (callsF hF h).mono (fun e w'' he => by cases e <;> exact he)⟩
        | exact ⟨depthF hF, rowsF hF h⟩
        | exact h.elim
  | halt x w' => cases x <;> simp only [Oper.upon, Oper.uponIn] at h ⊢ <;> first | exact h | exact h.elim

theorem wpOpIn_of (hF : F.plain = Fence.wide) (hQ : ¬ LetsOut Q) (hd : ops.all noDefer = true) {i : Nat} {a : Act} {w : World} {K : Act → World → Prop} (h : wpOp P ops Q i K a w) : wpOpIn F m P ops Q i K a w := by
  unfold wpOp at h
  unfold wpOpIn
  cases ho : ops[i]? with
  | none => simp only [ho] at h ⊢; exact h
  | some o =>
    simp only [ho] at h ⊢
    have hdo : noDefer o = true := by
      obtain ⟨hi, e⟩ := Array.getElem?_eq_some_iff.1 ho
      have := (Array.all_eq_true.1 hd) i hi
      rwa [e] at this
    split
    · rename_i hw; rw [if_pos hw] at h; exact opIn hF hdo (h.resolve_right fun x => hQ x.2)
    · rename_i hw; rw [if_neg hw] at h; exact ⟨fun f _ => fnF hF f, h⟩

theorem wpAnyIn_of (hF : F.plain = Fence.wide) (hQ : ¬ LetsOut Q) (hd : ops.all noDefer = true) : ∀ (fuel : Nat) (listed : Array Bool) (a : Act) (w : World), wpAny P md ops Q fuel listed a w → wpAnyIn F m P md ops Q fuel listed a w
  | 0, _, _, _, h => h
  | fuel + 1, _, _, _, h => ⟨h.1, fun i hi => wpOpIn_mono (fun a' w' h' => wpAnyIn_of hF hQ hd fuel _ a' w' h') (wpOpIn_of hF hQ hd (h.2 i hi))⟩

/-- **A region that draws its order goes by its plan: in the widest fence.** -/
theorem wpIn_region_plan {id : Nat} {a : Act} {w : World} {l : List Oper} (hF : F.plain = Fence.wide) (hQ : ¬ LetsOut Q) (n : Nat) (M : List Nat) (p : Plan) (hm : P.follows .mixedOrders = true) (hd : l.toArray.all noDefer = true) (hB : planB .any l.toArray n p = true)
    (h : wpPlan P l.toArray Q n M p a w.drew) : (Code.region id l.toArray true).wpIn F m P Q a w := by
  simp only [planB, Bool.and_eq_true, Bool.or_eq_true, decide_eq_true_eq] at hB
  obtain ⟨⟨hsel, hn⟩, hok⟩ := hB
  have hle : n ≤ l.toArray.size := by rcases hn with h1 | h1 <;> omega
  have inv0 : HeadInv .any l.toArray n (Array.replicate l.toArray.size false) :=
    ⟨by simp, fun j oj _ hl => (by rw [getD_replicate_false] at hl; cases hl), fun t _ ht => getD_in (by simpa using ht) (getD_replicate_false _ _)⟩
  have htail : ∀ i, i < n → ∀ listed, HeadInv .any l.toArray n listed → listed.getD i true = false → ∀ j ∈ Region.ready .any l.toArray listed, j < n := by
    intro i hin listed inv hun j hj
    rcases hn with h1 | ⟨⟨h1, hs⟩, hc⟩
    · have := (mem_ready.1 hj).2.choose_spec.1
      have hlt : j < l.toArray.size := (Array.getElem?_eq_some_iff.1 this).1
      omega
    · rcases Nat.lt_or_ge j n with h2 | h2
      · exact h2
      · exact absurd hj (tail_waits hs hc h1 inv _ i rfl hin hun j h2)
  have H := plan_sound (P := P) (Q := Q) (md := .any) hsel htail p n _ a _ inv0 hok h
  refine wpIn_region_any hm (wpAnyIn_of hF hQ hd _ _ _ _ ?_)
  have h3 := wpAny_of_X (P := P) (Q := Calm Q) (Q' := Q) Calm.imp (g := l.toArray.size - n) (fun listed a' w' hL => by
    have h2 := wpAny_of_seq (P := P) (ops := l.toArray) (md := .any) (Q' := Q) (l.drop n) n listed a' w' (fun j => by simp [List.getElem?_drop]) (by rw [show (l.drop n).length = l.toArray.size - n by simp]; exact hL.1) (by simpa using hL.2)
    rwa [show (l.drop n).length = l.toArray.size - n by simp] at h2) _ _ _ _ H
  rw [show n + (l.toArray.size - n) = l.toArray.size by omega] at h3
  exact h3

theorem wpListIn_of (hF : F.plain = Fence.wide) (hQ : ¬ LetsOut Q) : ∀ (l : List Oper), l.all noDefer = true → ∀ (a : Act) (w : World), wpList P ops Q l a w → wpListIn F m P ops Q l a w
  | [], _, _, _, h => h
  | o :: l, hd, a, w, h => by
    simp only [List.all_cons, Bool.and_eq_true] at hd
    unfold wpList at h
    unfold wpListIn
    split
    · rename_i hw
      rw [if_pos hw] at h
      exact Oper.wpIn_mono (fun a' w' h' => wpListIn_of hF hQ l hd.2 a' w' h') (opIn hF hd.1 (h.resolve_right fun x => hQ x.2))
    · rename_i hw
      rw [if_neg hw] at h
      exact ⟨fun f _ => fnF hF f, wpListIn_of hF hQ l hd.2 _ _ h⟩
/-- A region in its own order, in the widest fence. -/
theorem wpIn_region_of {id : Nat} {a : Act} {w : World} {l : List Oper} (hF : F.plain = Fence.wide) (hQ : ¬ LetsOut Q) (hd : l.all noDefer = true) (h : wpList P l.toArray Q l a w) : (Code.region id l.toArray false).wpIn F m P Q a w :=
  wpIn_region_lit (wpListIn_of hF hQ l hd a w h)
end
end Go.Dr

/- append of a whole row of any elements onto a row of the call's own; a row of the call's own under stores elsewhere. -/
namespace Go.Bs
open Go.RowKit Go.Sort Go.Pl

theorem flatMap_len {α : Type} {enc : α → List Value} {sz : Nat} (hen : ∀ x, (enc x).length = sz) (l : List α) : (l.flatMap enc).length = l.length * sz := by
  induction l with
  | nil => simp
  | cons y k ih => rw [List.flatMap_cons, List.length_append, hen, ih, List.length_cons, Nat.add_mul]; omega
theorem flatMap_at {α : Type} {enc : α → List Value} {sz : Nat} (hen : ∀ x, (enc x).length = sz) : ∀ (l : List α) (j : Nat) (u : Value), (l.flatMap enc)[j]? = some u → ∃ i x k, l[i]? = some x ∧ (enc x)[k]? = some u ∧ j = i * sz + k
  | [], j, u, h => by simp at h
  | a :: l, j, u, h => by
    rw [List.flatMap_cons] at h
    by_cases hj : j < sz
    · rw [List.getElem?_append_left (by rw [hen]; exact hj)] at h
      exact ⟨0, a, j, rfl, h, by omega⟩
    · rw [List.getElem?_append_right (by rw [hen]; omega), hen] at h
      obtain ⟨i, x, k, h1, h2, h3⟩ := flatMap_at hen l _ u h
      exact ⟨i + 1, x, k, by simpa using h1, h2, by rw [Nat.add_mul]; omega⟩

theorem wp_app_rows {P : Program} {o : Oper} {a : Act} {K : Act → World → Prop} {Q : Exit → Act → World → Prop} {w : World} {α : Type} (enc : α → List Value) (t e : TypeId) (sz bytes : Nat) (hT : ElemT P t e sz bytes) (hsz : 0 < sz) (hby : bytes ≤ 1000)
    (hen : ∀ x, (enc x).length = sz) (h1c : ∀ x, ∀ u ∈ enc x, u.oneCell' = true) (s x : Operand)
    (ho : o.op = .call { callee := .builtin .append, args := #[s, x], argTypes := #[t, t] }) (base : Nat) (v : Value) (l : List α) (hs : a.eval s = v) (hown : OwnL w base e sz enc v l)
    (X : Option Addr) (m c : Nat) (l2 : List α) (hm : l2.length = m) (hx : a.eval x = .slice X m c) (hc : Cells w X sz enc l2) (hlen : l.length + m ≤ 1000000000) (hbase : base ≤ w.heap.size)
    (h : ∀ v' w', OwnL w' base e sz enc v' (l ++ l2) → Below base w w' → w.grownBy w' v.ownBlock → ((v' = v ∧ w' = w) ∨ ∃ g cap, v' = .slice (some ⟨g, 0, none⟩) (l.length + m) cap ∧ (v.ownBlock = some g ∨ g = w.heap.size)) → K (a.put o.dst v') w') :
    o.wp P a w K Q := by
  obtain ⟨i, z, ht, hi, hz, hs1, hb1, hz1⟩ := hT
  have hmul : (l.length + m) * bytes ≤ 1000000000 * 1000 := Nat.mul_le_mul hlen hby
  cases m with
  | zero =>
    have hl2 : l2 = [] := List.length_eq_zero_iff.1 hm
    subst hl2
    obtain ⟨A, d, rfl, hd, _⟩ := hown.cells hen
    have hrun := run_app_zero (P := P) (w := w) ht hi o.type A X l.length d c hd
    unfold Oper.wp
    simp [execOp, ho, resolve, invoke, builtin, hs, hx, hrun, Result.andThen]
    exact h _ w (by simpa using hown) (Below.refl _ _) ⟨rfl, rfl, rfl, Nat.le_refl _, fun _ _ _ => rfl⟩ (.inl ⟨rfl, rfl⟩)
  | succ m =>
    obtain ⟨b, off, rfl, -⟩ := hc.at (k := 0) (by omega)
    refine wp_append_lies w s x t ho base e i z sz bytes ht hi hz hs1 hb1 hz1 hsz v l.length (l.flatMap enc) hs hown ⟨b, off, none⟩ (m + 1) c (l2.flatMap enc) hx ?_ ?_ ?_ (by omega) (by unfold maxLen; omega) (by omega) hbase w.heap.size rfl ?_
    · rw [flatMap_len hen, hm]
    · intro j u hj
      obtain ⟨i, y, k, h1, h2, h3⟩ := flatMap_at hen l2 j u hj
      obtain ⟨b', off', e', hcc⟩ := hc i y h1
      cases e'
      have := hcc k u h2
      rw [← h3] at this
      unfold Addr.add
      split
      · rename_i h0; subst h0; simpa using this
      · simpa using this
    · intro u hu
      obtain ⟨y, hy, hu⟩ := List.mem_flatMap.1 hu
      exact h1c y u hu
    · intro g' cap w' hown' hgrow hat hlt
      refine h _ w' ?_ ((Below.refl base w).grown hgrow hbase (fun k hk => (hown.lt hk).1)) hgrow (.inr ⟨g', cap, rfl, hat⟩)
      unfold OwnL
      rw [List.length_append, List.flatMap_append, hm]
      exact hown'
theorem app_rows {P : Program} {ops : Array Oper} {rest : List Oper} {o : Oper} {a : Act} {Q : Exit → Act → World → Prop} {w : World} {α : Type} (enc : α → List Value) (t e : TypeId) (sz bytes : Nat) (hT : ElemT P t e sz bytes) (hsz : 0 < sz) (hby : bytes ≤ 1000)
    (hen : ∀ x, (enc x).length = sz) (h1c : ∀ x, ∀ u ∈ enc x, u.oneCell' = true) (hgd : o.guard = none) (s x : Operand)
    (ho : o.op = .call { callee := .builtin .append, args := #[s, x], argTypes := #[t, t] }) (base : Nat) (v : Value) (l : List α) (hs : a.eval s = v) (hown : OwnL w base e sz enc v l)
    (X : Option Addr) (m c : Nat) (l2 : List α) (hm : l2.length = m) (hx : a.eval x = .slice X m c) (hc : Cells w X sz enc l2) (hlen : l.length + m ≤ 1000000000) (hbase : base ≤ w.heap.size)
    (h : ∀ v' w', OwnL w' base e sz enc v' (l ++ l2) → Below base w w' → w.grownBy w' v.ownBlock → ((v' = v ∧ w' = w) ∨ ∃ g cap, v' = .slice (some ⟨g, 0, none⟩) (l.length + m) cap ∧ (v.ownBlock = some g ∨ g = w.heap.size)) → wpList P ops Q rest (a.put o.dst v') w') :
    wpList P ops Q (o :: rest) a w :=
  wpList_plain hgd fun _ hK => wp_app_rows enc t e sz bytes hT hsz hby hen h1c s x ho base v l hs hown X m c l2 hm hx hc hlen hbase fun v' w' p1 p2 p3 p4 => hK _ _ (h v' w' p1 p2 p3 p4)

section
variable {α : Type} {w w' : World} {base : Nat} {e : TypeId} {sz : Nat} {enc : α → List Value} {v : Value} {l : List α}
theorem grownBy_setCell (w : World) (p : Addr) (u : Value) : w.grownBy (w.setCell p u) (some p.block) :=
  ⟨rfl, rfl, rfl, by simp, fun k hk hne => Below.heap_setCell w p u k (fun e => hne (by rw [e]))⟩
theorem OwnL.setCell (h : OwnL w base e sz enc v l) {p : Addr} (hp : p.block < base) (u : Value) : OwnL (w.setCell p u) base e sz enc v l := by
  refine h.kept (grownBy_setCell w p u) ?_
  cases hv : v.ownBlock with
  | none => exact .inl rfl
  | some k => exact .inr (fun e => by have := (h.lt hv).1; cases e; omega)
theorem OwnL.put (h : OwnL w base e sz enc v l) {p : Addr} (hp : v.ownBlock ≠ some p.block) (u : Value) : OwnL (w.setCell p u) base e sz enc v l :=
  h.kept (grownBy_setCell w p u) (.inr hp)
theorem Blk.under {B T : Nat} {cs : List Value} {n : Nat} (h : Blk w B T cs) (hb : Below n w w') (hB : B < n) : Blk w' B T cs := (hb.block B hB).trans h
end
/-- An empty row laid anew is the call's own. -/
theorem own_new {α : Type} (w : World) (T : TypeId) (sz : Nat) (enc : α → List Value) : OwnL (w.alloc (.cells #[] T)) w.heap.size T sz enc (.slice (some ⟨w.heap.size, 0, none⟩) 0 0) ([] : List α) :=
  ⟨by simp, .inr ⟨w.heap.size, 0, #[], rfl, Nat.le_refl _, by show (w.heap.push _)[w.heap.size]? = _; rw [Array.getElem?_push, if_pos rfl], Nat.le_refl _, by omega, by simp, by simp⟩⟩
/-- A row of the call's own that isn't empty: its block. -/
theorem OwnL.blk {α : Type} {w : World} {base : Nat} {e : TypeId} {sz : Nat} {enc : α → List Value} {v : Value} {l : List α} (h : OwnL w base e sz enc v l) (hen : ∀ x, (enc x).length = sz) (hl : 0 < l.length) :
    ∃ g cap, v = .slice (some ⟨g, 0, none⟩) l.length cap ∧ base ≤ g ∧ g < w.heap.size ∧ l.length ≤ cap ∧ cap ≤ maxLen ∧ Cells w (some ⟨g, 0, none⟩) sz enc l ∧ ∀ i, w.frozen? ⟨g, i, none⟩ = false := by
  obtain ⟨A, c, hv, h1, h2, h3⟩ := h.cells hen
  rcases h.2 with ⟨rfl, hn⟩ | ⟨g, cap, cur, hv2, hb, hg, hnc, hcm, hcs, htake⟩
  · omega
  · rw [hv2] at hv
    cases hv
    refine ⟨g, c, hv2, hb, ?_, h1, h2, h3, fun i => by simp [World.frozen?, hg]⟩
    have := (Array.getElem?_eq_some_iff.1 hg).1
    exact this
end Go.Bs

/- A region that draws its order, inside the widest fence (so in a round of a range over a function). -/
import Derived.Test.YtopfhinnamhoiaaDraw
import Derived.OrdersIn
import Derived.OwnWalkIn
import Derived.RangeFuncCalls
namespace Go.Dr
open Go.RowKit Go.Sort

section
variable {F : Fence} {m : Nat} {P : Program} {ops : Array Oper} {Q : Exit → Act → World → Prop} {md : Region.Mode}

def noDefer (o : Oper) : Bool := match o.op with | .defer _ => false | _ => true
theorem noDefer_spec {o : Oper} (h : noDefer o = true) : ∀ c, o.op ≠ .defer c := fun c e => by simp [noDefer, e] at h

theorem callsF (hF : F.plain = Fence.wide) {f : FuncId} {args : Array Value} {w : World} {R : Ending → World → Prop} (h : Calls P f args w R) : CallsIn F m P f args w R := by
  have h1 : CallsIn F.plain m P f args w R := by rw [hF]; exact callsIn_wide.2 h
  exact h1
theorem rowsF (hF : F.plain = Fence.wide) {row : String} {args : Array Value} {w : World} {R : Value → World → Prop} (h : Rows P row args w R) : RowsIn F m P row args w R := by
  have h1 : RowsIn F.plain m P row args w R := by
    rw [hF]
    exact fun c cs _ => let ⟨v, w', r, s⟩ := h c cs; ⟨v, w', r, stepsIn_wide.2 s⟩
  exact h1
theorem fnF (hF : F.plain = Fence.wide) (f : FuncId) : F.fn f := by
  have h1 : F.plain.fn f := by rw [hF]; trivial
  exact h1
theorem depthF (hF : F.plain = Fence.wide) {p : Prop} : F.depth.isSome = true → p := by
  have h1 : F.plain.depth = none := by rw [hF]; rfl
  have h2 : F.depth = none := h1
  rw [h2]; intro h; cases h

theorem opIn (hF : F.plain = Fence.wide) {o : Oper} (hd : noDefer o = true) {a : Act} {w : World} {K : Act → World → Prop} (h : o.wp P a w K Q) : o.wpIn F m P a w K Q := by
  refine ⟨fun f _ => fnF hF f, ?_⟩
  rw [Oper.semAt_eq _ _ _ (noDefer_spec hd)]
  unfold Oper.wp at h
  generalize (execOp a.eval o).run P w = r at *
  cases r with
  | ok x w' =>
    cases x <;> simp only [Oper.upon, Oper.uponIn] at h ⊢ <;>
      first
        | exact h
        | exact ⟨depthF hF, (callsF hF h).mono (fun e w'' he => by cases e <;> exact he)⟩
        | exact ⟨depthF hF, rowsF hF h⟩
        | exact h.elim
  | halt x w' => cases x <;> simp only [Oper.upon, Oper.uponIn] at h ⊢ <;> first | exact h | exact h.elim

theorem wpOpIn_of (hF : F.plain = Fence.wide) (hQ : ¬ LetsOut Q) (hd : ops.all noDefer = true) {i : Nat} {a : Act} {w : World} {K : Act → World → Prop} (h : wpOp P ops Q i K a w) : wpOpIn F m P ops Q i K a w := by
  unfold wpOp at h
  unfold wpOpIn
  cases ho : ops[i]? with
  | none => simp only [ho] at h ⊢; exact h
  | some o =>
    simp only [ho] at h ⊢
    have hdo : noDefer o = true := by
      obtain ⟨hi, e⟩ := Array.getElem?_eq_some_iff.1 ho
      have := (Array.all_eq_true.1 hd) i hi
      rwa [e] at this
    split
    · rename_i hw; rw [if_pos hw] at h; exact opIn hF hdo (h.resolve_right fun x => hQ x.2)
    · rename_i hw; rw [if_neg hw] at h; exact ⟨fun f _ => fnF hF f, h⟩

theorem wpAnyIn_of (hF : F.plain = Fence.wide) (hQ : ¬ LetsOut Q) (hd : ops.all noDefer = true) : ∀ (fuel : Nat) (listed : Array Bool) (a : Act) (w : World), wpAny P md ops Q fuel listed a w → wpAnyIn F m P md ops Q fuel listed a w
  | 0, _, _, _, h => h
  | fuel + 1, listed, a, w, h => ⟨h.1, fun i hi => wpOpIn_mono (fun a' w' h' => wpAnyIn_of hF hQ hd fuel _ a' w' h') (wpOpIn_of hF hQ hd (h.2 i hi))⟩

/-- **A region that draws its order goes by its plan: in the widest fence.** -/
theorem wpIn_region_plan {id : Nat} {a : Act} {w : World} {l : List Oper} (hF : F.plain = Fence.wide) (hQ : ¬ LetsOut Q) (n : Nat) (M : List Nat) (p : Plan) (hm : P.follows .mixedOrders = true) (hd : l.toArray.all noDefer = true) (hB : planB .any l.toArray n p = true)
    (h : wpPlan P l.toArray Q n M p a w.drew) : (Code.region id l.toArray true).wpIn F m P Q a w := by
  simp only [planB, Bool.and_eq_true, Bool.or_eq_true, decide_eq_true_eq] at hB
  obtain ⟨⟨hsel, hn⟩, hok⟩ := hB
  have hle : n ≤ l.toArray.size := by rcases hn with h1 | h1 <;> omega
  have inv0 : HeadInv .any l.toArray n (Array.replicate l.toArray.size false) :=
    ⟨by simp, fun j oj _ hl => (by rw [getD_replicate_false] at hl; cases hl), fun t _ ht => getD_in (by simpa using ht) (getD_replicate_false _ _)⟩
  have htail : ∀ i, i < n → ∀ listed, HeadInv .any l.toArray n listed → listed.getD i true = false → ∀ j ∈ Region.ready .any l.toArray listed, j < n := by
    intro i hin listed inv hun j hj
    rcases hn with h1 | ⟨⟨h1, hs⟩, hc⟩
    · have := (mem_ready.1 hj).2.choose_spec.1
      have hlt : j < l.toArray.size := (Array.getElem?_eq_some_iff.1 this).1
      omega
    · rcases Nat.lt_or_ge j n with h2 | h2
      · exact h2
      · exact absurd hj (tail_waits hs hc h1 inv _ i rfl hin hun j h2)
  have H := plan_sound (P := P) (Q := Q) (md := .any) hsel htail p n _ a _ inv0 hok h
  refine wpIn_region_any hm (wpAnyIn_of hF hQ hd _ _ _ _ ?_)
  have h3 := wpAny_of_X (P := P) (Q := Calm Q) (Q' := Q) Calm.imp (g := l.toArray.size - n) (fun listed a' w' hL => by
    have h2 := wpAny_of_seq (P := P) (ops := l.toArray) (md := .any) (Q' := Q) (l.drop n) n listed a' w' (fun j => by simp [List.getElem?_drop]) (by rw [show (l.drop n).length = l.toArray.size - n by simp]; exact hL.1) (by simpa using hL.2)
    rwa [show (l.drop n).length = l.toArray.size - n by simp] at h2) _ _ _ _ H
  rw [show n + (l.toArray.size - n) = l.toArray.size by omega] at h3
  exact h3

theorem wpListIn_of (hF : F.plain = Fence.wide) (hQ : ¬ LetsOut Q) : ∀ (l : List Oper), l.all noDefer = true → ∀ (a : Act) (w : World), wpList P ops Q l a w → wpListIn F m P ops Q l a w
  | [], _, _, _, h => h
  | o :: l, hd, a, w, h => by
    simp only [List.all_cons, Bool.and_eq_true] at hd
    unfold wpList at h
    unfold wpListIn
    split
    · rename_i hw
      rw [if_pos hw] at h
      exact Oper.wpIn_mono (fun a' w' h' => wpListIn_of hF hQ l hd.2 a' w' h') (opIn hF hd.1 (h.resolve_right fun x => hQ x.2))
    · rename_i hw
      rw [if_neg hw] at h
      exact ⟨fun f _ => fnF hF f, wpListIn_of hF hQ l hd.2 _ _ h⟩
/-- A region in its own order, in the widest fence. -/
theorem wpIn_region_of {id : Nat} {a : Act} {w : World} {l : List Oper} (hF : F.plain = Fence.wide) (hQ : ¬ LetsOut Q) (hd : l.all noDefer = true) (h : wpList P l.toArray Q l a w) : (Code.region id l.toArray false).wpIn F m P Q a w :=
  wpIn_region_lit (wpListIn_of hF hQ l hd a w h)
end
end Go.Dr

/- A plan of a drawn region with up to four operations ready at once (Ground's Plan with one constructor more). -/
import Derived.Test.YtilkoooahoecfaaGreatGround
namespace Go.Dr
open Go.RowKit Go.Sort
section
variable {P : Program} {ops : Array Oper} {Q : Exit → Act → World → Prop} {md : Region.Mode} {n : Nat}
variable {M : List Nat}
/-- A plan: 'q': these are taken first, they only read; 'e': of these whichever comes up. -/
inductive Plan4 where
  | done
  | q (is : List Nat) (p : Plan4)
  | e1 (i : Nat) (p : Plan4)
  | e2 (i : Nat) (p : Plan4) (j : Nat) (r : Plan4)
  | e3 (i : Nat) (p : Plan4) (j : Nat) (r : Plan4) (k : Nat) (s : Plan4)
  | e4 (i : Nat) (p : Plan4) (j : Nat) (r : Plan4) (k : Nat) (s : Plan4) (l : Nat) (t : Plan4)

def Plan4.ok (md : Region.Mode) (ops : Array Oper) (n : Nat) : Plan4 → Nat → Array Bool → Bool
  | .done, f, listed => decide (f = 0) && Region.seqB md ops (ops.size - n) n listed
  | .q is p, f, listed => qok md ops n is f listed (p.ok md ops n)
  | .e1 i p, f, listed => match f with | 0 => false | f + 1 => decide (Region.ready md ops listed = [i]) && decide (i < n) && p.ok md ops n f (listed.setIfInBounds i true)
  | .e2 i p j r, f, listed => match f with
    | 0 => false
    | f + 1 => decide (Region.ready md ops listed = [i, j]) && decide (i < n) && decide (j < n) && p.ok md ops n f (listed.setIfInBounds i true) && r.ok md ops n f (listed.setIfInBounds j true)
  | .e3 i p j r k s, f, listed => match f with
    | 0 => false
    | f + 1 => decide (Region.ready md ops listed = [i, j, k]) && decide (i < n) && decide (j < n) && decide (k < n) && p.ok md ops n f (listed.setIfInBounds i true) && r.ok md ops n f (listed.setIfInBounds j true) && s.ok md ops n f (listed.setIfInBounds k true)
  | .e4 i p j r k s l t, f, listed => match f with
    | 0 => false
    | f + 1 => decide (Region.ready md ops listed = [i, j, k, l]) && decide (i < n) && decide (j < n) && decide (k < n) && decide (l < n) && p.ok md ops n f (listed.setIfInBounds i true) && r.ok md ops n f (listed.setIfInBounds j true) && s.ok md ops n f (listed.setIfInBounds k true) && t.ok md ops n f (listed.setIfInBounds l true)

def wpPlan4 (P : Program) (ops : Array Oper) (Q : Exit → Act → World → Prop) (n : Nat) (M : List Nat) : Plan4 → Act → World → Prop
  | .done, a, w => wpList P ops Q (ops.toList.drop n) a w
  | .q is p, a, w => wpQuiet P ops (Cls M w) (fun a' => wpPlan4 P ops Q n M p a' w) (is.filterMap fun i => ops[i]?) a
  | .e1 i p, a, w => wpOp P ops (Calm Q) i (fun a' w' => Bel M w w' ∧ wpPlan4 P ops Q n M p a' w') a w
  | .e2 i p j r, a, w => wpOp P ops (Calm Q) i (fun a' w' => Bel M w w' ∧ wpPlan4 P ops Q n M p a' w') a w ∧ wpOp P ops (Calm Q) j (fun a' w' => Bel M w w' ∧ wpPlan4 P ops Q n M r a' w') a w
  | .e3 i p j r k s, a, w => wpOp P ops (Calm Q) i (fun a' w' => Bel M w w' ∧ wpPlan4 P ops Q n M p a' w') a w ∧ wpOp P ops (Calm Q) j (fun a' w' => Bel M w w' ∧ wpPlan4 P ops Q n M r a' w') a w ∧ wpOp P ops (Calm Q) k (fun a' w' => Bel M w w' ∧ wpPlan4 P ops Q n M s a' w') a w
  | .e4 i p j r k s l t, a, w => wpOp P ops (Calm Q) i (fun a' w' => Bel M w w' ∧ wpPlan4 P ops Q n M p a' w') a w ∧ wpOp P ops (Calm Q) j (fun a' w' => Bel M w w' ∧ wpPlan4 P ops Q n M r a' w') a w ∧ wpOp P ops (Calm Q) k (fun a' w' => Bel M w w' ∧ wpPlan4 P ops Q n M s a' w') a w ∧ wpOp P ops (Calm Q) l (fun a' w' => Bel M w w' ∧ wpPlan4 P ops Q n M t a' w') a w

theorem plan4_sound (hsel : Region.noSelect ops = true)
    (htail : ∀ i, i < n → ∀ listed, HeadInv md ops n listed → listed.getD i true = false → ∀ j ∈ Region.ready md ops listed, j < n) :
    ∀ (p : Plan4) (f : Nat) (listed : Array Bool) (a : Act) (w : World), HeadInv md ops n listed → p.ok md ops n f listed = true → wpPlan4 P ops Q n M p a w →
      wpX P md ops (Calm Q) n M (fun listed a w => Region.seqB md ops (ops.size - n) n listed = true ∧ wpList P ops Q (ops.toList.drop n) a w) f listed a w
  | .done, f, listed, a, w, inv, h, hp => by
    simp only [Plan4.ok, Bool.and_eq_true, decide_eq_true_eq] at h
    obtain ⟨rfl, hs⟩ := h
    exact ⟨hs, hp⟩
  | .q is p, f, listed, a, w, inv, h, hp =>
    qok_sound hsel (fun _ _ _ _ _ hp => hp) htail (fun _ _ _ hL => seqB_ready hL.1) (p.ok md ops n) (fun a' => wpPlan4 P ops Q n M p a' w)
      (fun f' listed' a' inv' hok hK => plan4_sound hsel htail p f' listed' a' w inv' hok hK) is f listed a inv h hp
  | .e1 i p, 0, listed, a, w, inv, h, hp => by simp [Plan4.ok] at h
  | .e1 i p, f + 1, listed, a, w, inv, h, hp => by
    simp only [Plan4.ok, Bool.and_eq_true, decide_eq_true_eq] at h
    obtain ⟨⟨hr, hin⟩, hok⟩ := h
    refine ⟨fun h0 => (by rw [hr] at h0; cases h0), fun j hj => ?_⟩
    have hji : j = i := by rw [hr] at hj; simpa using hj
    subst hji
    refine ⟨hin, wpOp_mono (fun a' w' h' => ⟨h'.1, plan4_sound hsel htail p f _ a' w' (inv.set hj hin) hok h'.2⟩) hp⟩
  | .e2 i p j r, 0, listed, a, w, inv, h, hp => by simp [Plan4.ok] at h
  | .e2 i p j r, f + 1, listed, a, w, inv, h, hp => by
    simp only [Plan4.ok, Bool.and_eq_true, decide_eq_true_eq] at h
    obtain ⟨⟨⟨⟨hr, hin⟩, hjn⟩, hok⟩, hok2⟩ := h
    refine ⟨fun h0 => (by rw [hr] at h0; cases h0), fun k hk => ?_⟩
    have hki : k = i ∨ k = j := by rw [hr] at hk; simpa using hk
    rcases hki with rfl | rfl
    · exact ⟨hin, wpOp_mono (fun a' w' h' => ⟨h'.1, plan4_sound hsel htail p f _ a' w' (inv.set hk hin) hok h'.2⟩) hp.1⟩
    · exact ⟨hjn, wpOp_mono (fun a' w' h' => ⟨h'.1, plan4_sound hsel htail r f _ a' w' (inv.set hk hjn) hok2 h'.2⟩) hp.2⟩
  | .e3 i p j r k s, 0, listed, a, w, inv, h, hp => by simp [Plan4.ok] at h
  | .e3 i p j r k s, f + 1, listed, a, w, inv, h, hp => by
    simp only [Plan4.ok, Bool.and_eq_true, decide_eq_true_eq] at h
    obtain ⟨⟨⟨⟨⟨⟨hr, hin⟩, hjn⟩, hkn⟩, hok⟩, hok2⟩, hok3⟩ := h
    refine ⟨fun h0 => (by rw [hr] at h0; cases h0), fun m hm => ?_⟩
    have hmi : m = i ∨ m = j ∨ m = k := by rw [hr] at hm; simpa using hm
    rcases hmi with rfl | rfl | rfl
    · exact ⟨hin, wpOp_mono (fun a' w' h' => ⟨h'.1, plan4_sound hsel htail p f _ a' w' (inv.set hm hin) hok h'.2⟩) hp.1⟩
    · exact ⟨hjn, wpOp_mono (fun a' w' h' => ⟨h'.1, plan4_sound hsel htail r f _ a' w' (inv.set hm hjn) hok2 h'.2⟩) hp.2.1⟩
    · exact ⟨hkn, wpOp_mono (fun a' w' h' => ⟨h'.1, plan4_sound hsel htail s f _ a' w' (inv.set hm hkn) hok3 h'.2⟩) hp.2.2⟩
  | .e4 i p j r k s l t, 0, listed, a, w, inv, h, hp => by simp [Plan4.ok] at h
  | .e4 i p j r k s l t, f + 1, listed, a, w, inv, h, hp => by
    simp only [Plan4.ok, Bool.and_eq_true, decide_eq_true_eq] at h
    obtain ⟨⟨⟨⟨⟨⟨⟨⟨hr, hin⟩, hjn⟩, hkn⟩, hln⟩, hok⟩, hok2⟩, hok3⟩, hok4⟩ := h
    refine ⟨fun h0 => (by rw [hr] at h0; cases h0), fun m hm => ?_⟩
    have hmi : m = i ∨ m = j ∨ m = k ∨ m = l := by rw [hr] at hm; simpa using hm
    rcases hmi with rfl | rfl | rfl | rfl
    · exact ⟨hin, wpOp_mono (fun a' w' h' => ⟨h'.1, plan4_sound hsel htail p f _ a' w' (inv.set hm hin) hok h'.2⟩) hp.1⟩
    · exact ⟨hjn, wpOp_mono (fun a' w' h' => ⟨h'.1, plan4_sound hsel htail r f _ a' w' (inv.set hm hjn) hok2 h'.2⟩) hp.2.1⟩
    · exact ⟨hkn, wpOp_mono (fun a' w' h' => ⟨h'.1, plan4_sound hsel htail s f _ a' w' (inv.set hm hkn) hok3 h'.2⟩) hp.2.2.1⟩
    · exact ⟨hln, wpOp_mono (fun a' w' h' => ⟨h'.1, plan4_sound hsel htail t f _ a' w' (inv.set hm hln) hok4 h'.2⟩) hp.2.2.2⟩

/-- The Bool that is asked once a region: n heads, then the tail. -/
def planB4 (md : Region.Mode) (ops : Array Oper) (n : Nat) (p : Plan4) : Bool :=
  Region.noSelect ops && (decide (n = ops.size) || (decide (n < ops.size) && Region.sinkB md ops n && Region.chainB md ops n)) && p.ok md ops n n (Array.replicate ops.size false)

/-- **A region that draws its order goes by its plan.** -/
theorem wp_region_plan4 {id : Nat} {a : Act} {w : World} {l : List Oper} (n : Nat) (M : List Nat) (p : Plan4) (hm : P.follows .mixedOrders = true) (hB : planB4 .any l.toArray n p = true)
    (h : wpPlan4 P l.toArray Q n M p a w.drew) : (Code.region id l.toArray true).wp P Q a w := by
  simp only [planB4, Bool.and_eq_true, Bool.or_eq_true, decide_eq_true_eq] at hB
  obtain ⟨⟨hsel, hn⟩, hok⟩ := hB
  have hle : n ≤ l.toArray.size := by rcases hn with h1 | h1 <;> omega
  have inv0 : HeadInv .any l.toArray n (Array.replicate l.toArray.size false) :=
    ⟨by simp, fun j oj _ hl => (by rw [getD_replicate_false] at hl; cases hl), fun t _ ht => getD_in (by simpa using ht) (getD_replicate_false _ _)⟩
  have htail : ∀ i, i < n → ∀ listed, HeadInv .any l.toArray n listed → listed.getD i true = false → ∀ j ∈ Region.ready .any l.toArray listed, j < n := by
    intro i hin listed inv hun j hj
    rcases hn with h1 | ⟨⟨h1, hs⟩, hc⟩
    · have := (mem_ready.1 hj).2.choose_spec.1
      have hlt : j < l.toArray.size := (Array.getElem?_eq_some_iff.1 this).1
      omega
    · rcases Nat.lt_or_ge j n with h2 | h2
      · exact h2
      · exact absurd hj (tail_waits hs hc h1 inv _ i rfl hin hun j h2)
  have H := plan4_sound (P := P) (Q := Q) (md := .any) hsel htail p n _ a _ inv0 hok h
  refine wp_region_any hm ?_
  have h3 := wpAny_of_X (P := P) (Q := Calm Q) (Q' := Q) Calm.imp (g := l.toArray.size - n) (fun listed a' w' hL => by
    have h2 := wpAny_of_seq (P := P) (ops := l.toArray) (md := .any) (Q' := Q) (l.drop n) n listed a' w' (fun j => by simp [List.getElem?_drop]) (by rw [show (l.drop n).length = l.toArray.size - n by simp]; exact hL.1) (by simpa using hL.2)
    rwa [show (l.drop n).length = l.toArray.size - n by simp] at h2) _ _ _ _ H
  rw [show n + (l.toArray.size - n) = l.toArray.size by omega] at h3
  exact h3

section
variable {l0 : List Oper}
theorem plan4_done {a : Act} {w : World} {tl : List Oper} (ht : l0.drop n = tl) (h : wpList P l0.toArray Q tl a w) : wpPlan4 P l0.toArray Q n M .done a w := by
  unfold wpPlan4; rw [show l0.toArray.toList = l0 by simp, ht]; exact h
theorem plan4_end {a : Act} {w : World} (ht : l0.drop n = []) (h : Q .normal a w) : wpPlan4 P l0.toArray Q n M .done a w := plan4_done ht h
theorem plan4_q {is : List Nat} {p : Plan4} {a : Act} {w : World} {l : List Oper} (hl : is.filterMap (nth l0) = l)
    (h : ∀ K : Act → Prop, (∀ a', wpPlan4 P l0.toArray Q n M p a' w → K a') → wpQuiet P l0.toArray (Cls M w) K l a) : wpPlan4 P l0.toArray Q n M (.q is p) a w := by
  unfold wpPlan4
  rw [show (fun i => l0.toArray[i]?) = nth l0 from funext (nth_eq l0), hl]
  exact h _ (fun _ h => h)
theorem plan4_e {i : Nat} {p : Plan4} {a : Act} {w : World} {o : Oper} (hi : nth l0 i = some o) (hw : Region.wanted o (yielded l0.toArray a.tmps) = true)
    (h : ∀ K : Act → World → Prop, (∀ a' w', Bel M w w' → wpPlan4 P l0.toArray Q n M p a' w' → K a' w') → o.wp P a w K (Calm Q)) : wpPlan4 P l0.toArray Q n M (.e1 i p) a w := by
  unfold wpPlan4 wpOp
  simp only [nth_eq, hi, if_pos hw]
  exact .inl (h _ (fun a' w' h1 h2 => ⟨h1, h2⟩))
theorem plan4_e_skip {i : Nat} {p : Plan4} {a : Act} {w : World} {o : Oper} (hi : nth l0 i = some o) (hw : Region.wanted o (yielded l0.toArray a.tmps) = false)
    (h : wpPlan4 P l0.toArray Q n M p (a.put o.dst undef) w) : wpPlan4 P l0.toArray Q n M (.e1 i p) a w := by
  unfold wpPlan4 wpOp
  simp only [nth_eq, hi, hw]
  exact ⟨Bel.refl _ _, h⟩
theorem plan4_e2 {i j : Nat} {p r : Plan4} {a : Act} {w : World} (h1 : wpPlan4 P l0.toArray Q n M (.e1 i p) a w) (h2 : wpPlan4 P l0.toArray Q n M (.e1 j r) a w) : wpPlan4 P l0.toArray Q n M (.e2 i p j r) a w := by
  unfold wpPlan4 at h1 h2 ⊢
  exact ⟨h1, h2⟩
theorem plan4_e3 {i j k : Nat} {p r s : Plan4} {a : Act} {w : World} (h1 : wpPlan4 P l0.toArray Q n M (.e1 i p) a w) (h2 : wpPlan4 P l0.toArray Q n M (.e1 j r) a w) (h3 : wpPlan4 P l0.toArray Q n M (.e1 k s) a w) : wpPlan4 P l0.toArray Q n M (.e3 i p j r k s) a w := by
  unfold wpPlan4 at h1 h2 h3 ⊢
  exact ⟨h1, h2, h3⟩
theorem plan4_e4 {i j k l : Nat} {p r s t : Plan4} {a : Act} {w : World} (h1 : wpPlan4 P l0.toArray Q n M (.e1 i p) a w) (h2 : wpPlan4 P l0.toArray Q n M (.e1 j r) a w) (h3 : wpPlan4 P l0.toArray Q n M (.e1 k s) a w) (h4 : wpPlan4 P l0.toArray Q n M (.e1 l t) a w) : wpPlan4 P l0.toArray Q n M (.e4 i p j r k s l t) a w := by
  unfold wpPlan4 at h1 h2 h3 h4 ⊢
  exact ⟨h1, h2, h3, h4⟩
end
end
end Go.Dr

/- The yard's reference as plain data: what an arrangement is by the document's words; the least one. -/
import Derived.Test.YtopfhinnamhoiaaYardR
namespace Go.Proofs.Ytopfhinnamhoiaa
open Go.RowKit Go.Yd Go.Pl Go.Sort Go.Bs

/-- places by the words -/
structure RefA (y : Yrd) (l : List Int) : Prop where
  box : ∀ i (h : i < l.length), 0 ≤ l[i] ∧ l[i] < y.boxes.length
  room : ∀ i (h : i < l.length), y.needs.getD i 0 ≤ y.boxes.getD (l[i]).toNat 0
  one : ∀ i k (h : i < l.length) (hk : k < i), l[k]'(by omega) ≠ l[i]
  foe : ∀ p ∈ y.foes, ∀ (h1 : p.1.toNat < l.length) (h2 : p.2.toNat < l.length), ¬ (-1 ≤ l[p.1.toNat] - l[p.2.toNat] ∧ l[p.1.toNat] - l[p.2.toNat] ≤ 1)
theorem clash_of {ps : List (Nat × Nat)} {i : Nat} {p : Int} : ∀ (l : List Int) (j : Nat), (∀ k (h : k < l.length), l[k] ≠ p ∧ (-1 ≤ wrap64 (l[k] - p) ∧ wrap64 (l[k] - p) ≤ 1 → (i, j + k) ∉ ps)) → clash ps i p j l = false
  | [], j, _ => rfl
  | q :: r, j, h => by
    unfold clash
    have h0 := h 0 (by simp)
    simp only [List.getElem_cons_zero, Nat.add_zero] at h0
    have ih := clash_of r (j + 1) (fun k hk => by
      have := h (k + 1) (by simpa using hk)
      rw [show j + 1 + k = j + (k + 1) by omega]
      simpa using this)
    rw [ih, Bool.or_false, Bool.or_eq_false_iff]
    refine ⟨beq_eq_false_iff_ne.2 h0.1, ?_⟩
    rw [Bool.and_eq_false_iff]
    by_cases hw : -1 ≤ wrap64 (q - p) ∧ wrap64 (q - p) ≤ 1
    · exact .inr (decide_eq_false (h0.2 hw))
    · exact .inl (decide_eq_false hw)
theorem refA_iff {y : Yrd} (hok : Yrd.okB y = true) {l : List Int} : arrP y (foeL y.foes) y.boxes.length [] l = true ↔ RefA y l := by
  obtain ⟨k1, -, -, -, -, k6⟩ := Yrd.okB_spec hok
  have hti : ∀ i, i < l.length → (l.take i).length = i := fun i hi => by simp; omega
  constructor
  · intro harr
    have hp := (arrP_iff l []).1 harr
    have hbox : ∀ i (h : i < l.length), 0 ≤ l[i] ∧ l[i] < y.boxes.length := fun i hi => by
      have := hp i hi
      unfold okPlace at this
      rw [Bool.and_eq_true, decide_eq_true_eq] at this
      exact this.1
    have hfit : ∀ i (h : i < l.length), fits y (foeL y.foes) (l.take i) (l[i]).toNat = true := fun i hi => by
      have := hp i hi
      unfold okPlace at this
      rw [Bool.and_eq_true] at this
      simpa using this.2
    have hcl : ∀ i k (h : i < l.length) (hk : k < i), l[k]'(by omega) ≠ l[i] ∧ (-1 ≤ l[k]'(by omega) - l[i] ∧ l[k]'(by omega) - l[i] ≤ 1 → (i, k) ∉ foeL y.foes) := fun i k hi hk => by
      have := hfit i hi
      unfold fits at this
      rw [Bool.and_eq_true, hti i hi, Bool.not_eq_true'] at this
      have hb := hbox i hi
      have hbk := hbox k (by omega)
      have hc := clash_false (l.take i) 0 this.2 k (by rw [hti i hi]; exact hk)
      rw [List.getElem_take, Int.toNat_of_nonneg hb.1, wrap_small (by omega) (by omega), Nat.zero_add] at hc
      exact hc
    refine ⟨hbox, fun i hi => ?_, fun i k hi hk => (hcl i k hi hk).1, fun p hp h1 h2 hw => ?_⟩
    · have := hfit i hi
      unfold fits at this
      rw [Bool.and_eq_true, decide_eq_true_eq, hti i hi] at this
      exact this.1
    · have hpr := k6 p hp
      have hne : p.1.toNat ≠ p.2.toNat := by omega
      rcases Nat.lt_or_gt_of_ne hne with hlt | hlt
      · exact (hcl _ _ h2 hlt).2 (by omega) ((mem_foeL _ _ _).2 ⟨p, hp, .inr ⟨rfl, rfl⟩⟩)
      · exact (hcl _ _ h1 hlt).2 (by omega) ((mem_foeL _ _ _).2 ⟨p, hp, .inl ⟨rfl, rfl⟩⟩)
  · intro h
    rw [arrP_iff]
    intro i hi
    rw [List.nil_append]
    have hb := h.box i hi
    unfold okPlace
    rw [Bool.and_eq_true, decide_eq_true_eq]
    refine ⟨hb, ?_⟩
    unfold fits
    rw [Bool.and_eq_true, decide_eq_true_eq, hti i hi, Bool.not_eq_true']
    refine ⟨h.room i hi, clash_of _ _ (fun k hk => ?_)⟩
    rw [hti i hi] at hk
    have hbk := h.box k (by omega)
    rw [List.getElem_take, Int.toNat_of_nonneg hb.1, wrap_small (by omega) (by omega), Nat.zero_add]
    refine ⟨h.one i k hi hk, fun hw hmem => ?_⟩
    obtain ⟨p, hp, hpe⟩ := (mem_foeL _ _ _).1 hmem
    rcases hpe with ⟨e1, e2⟩ | ⟨e1, e2⟩
    · have := h.foe p hp (by omega) (by omega)
      simp only [e1, e2] at this
      omega
    · have := h.foe p hp (by omega) (by omega)
      simp only [e1, e2] at this
      omega
/-- the least arrangement that begins with at_, of m more -/
def grownG (y : Yrd) (m : Nat) (at_ : List Int) : Option (List Int) := if arrP y (foeL y.foes) y.boxes.length [] at_ then standR y (foeL y.foes) y.boxes.length m at_ else none
theorem arrP_append (y : Yrd) (ps : List (Nat × Nat)) (n1 : Nat) : ∀ (l at_ : List Int) (q : Int), arrP y ps n1 at_ (l ++ [q]) = (arrP y ps n1 at_ l && okPlace y ps n1 (at_ ++ l) q)
  | [], at_, q => by simp [arrP]
  | x :: l, at_, q => by
    have ih := arrP_append y ps n1 l (at_ ++ [x]) q
    simp only [List.cons_append, arrP, ih, Bool.and_assoc, List.append_assoc, List.nil_append]
theorem grownG_at {y : Yrd} {m : Nat} {at_ : List Int} (h : arrP y (foeL y.foes) y.boxes.length [] at_ = true) (q : Int) : grownG y m (at_ ++ [q]) = if okPlace y (foeL y.foes) y.boxes.length at_ q then standR y (foeL y.foes) y.boxes.length m (at_ ++ [q]) else none := by
  unfold grownG
  rw [arrP_append, h, Bool.true_and, List.nil_append]
theorem grown_none {y : Yrd} {m : Nat} {at_ : List Int} (h : arrP y (foeL y.foes) y.boxes.length [] at_ = true) (hq : ∀ q : Nat, q < y.boxes.length → grownG y m (at_ ++ [(q : Int)]) = none) : grownG y (m + 1) at_ = none := by
  unfold grownG
  rw [if_pos h]
  refine standR_none fun x hx => ?_
  have := hq x.1 x.2
  rw [grownG_at h, if_pos (okPlace_ix.2 ⟨x, hx, rfl⟩)] at this
  exact this
theorem grown_some {y : Yrd} {m : Nat} {at_ : List Int} (h : arrP y (foeL y.foes) y.boxes.length [] at_ = true) {q : Nat} (hq : q < y.boxes.length) (hn : ∀ q' : Nat, q' < q → grownG y m (at_ ++ [(q' : Int)]) = none) {l : List Int} (hs : grownG y m (at_ ++ [(q : Int)]) = some l) : grownG y (m + 1) at_ = some l := by
  have hok : okPlace y (foeL y.foes) y.boxes.length at_ (q : Int) = true := by
    rw [grownG_at h] at hs
    split at hs
    · assumption
    · cases hs
  have hs2 : standR y (foeL y.foes) y.boxes.length m (at_ ++ [(q : Int)]) = some l := by
    rw [grownG_at h, if_pos hok] at hs; exact hs
  obtain ⟨x, hx, hxe⟩ := okPlace_ix.1 hok
  have hxq : x = ⟨q, hq⟩ := by obtain ⟨v, p⟩ := x; simp only at hxe; have : v = q := by omega
                               subst this; rfl
  subst hxq
  have hf := ((mem_freeIx _ _ _ _ _).1 hx).2
  have hfx : freeIx (fits y (foeL y.foes) at_) y.boxes.length (q + 1) hq = freeIx (fits y (foeL y.foes) at_) y.boxes.length q (by omega) ++ [⟨q, hq⟩] := by
    show (if fits y (foeL y.foes) at_ q then _ else _) = _
    rw [if_pos hf]
  unfold grownG
  rw [if_pos h, standR_some (k := q + 1) hq hfx ?_ (by rw [hs2]; rfl), hs2]
  intro z hz
  have hz2 := (mem_freeIx _ _ _ _ _).1 hz
  have hzm : z ∈ freeIx (fits y (foeL y.foes) at_) y.boxes.length y.boxes.length (Nat.le_refl _) := (mem_freeIx _ _ _ _ _).2 ⟨z.2, hz2.2⟩
  have := hn z.1 hz2.1
  rw [grownG_at h, if_pos (okPlace_ix.2 ⟨z, hzm, rfl⟩)] at this
  exact this
theorem grownG_stand (y : Yrd) : grownG y y.needs.length [] = Yrd.stand y := by
  unfold grownG Yrd.stand
  have h : arrP y (foeL y.foes) y.boxes.length [] [] = true := rfl
  rw [if_pos h]
end Go.Proofs.Ytopfhinnamhoiaa

/- The grid's reference: data, and the walks of Flow, Drop, Blown, Low, Fine, RightGrid, With, Grid. -/
import Derived.Deep.DeepCutAuto
import Derived.Maps.RangeWalk
import Derived.Test.YtopfhinnamhoiaaGridW
import Derived.Test.YtopfhinnamhoiaaYardW
import Derived.Test.YtopfhinnamhoiaaGround
/- The grid's reference, as plain data: flows by the sum over the nodes fed, drops by the way up; a grid with more at a node. -/
namespace Go.Proofs.Ytopfhinnamhoiaa
open Go.Yd Go.Pl

/-- what the nodes below k hand on to node i -/
def cs (p : Nat → Nat) (f : Nat → Int) (i : Nat) : Nat → Int
  | 0 => 0
  | k + 1 => cs p f i k + if 0 < k ∧ p k = i then f k else 0
theorem cs_zero {p : Nat → Nat} {n : Nat} (hp : ∀ k, 0 < k → k < n → p k < k) (f : Nat → Int) (i : Nat) : ∀ k, k ≤ i + 1 → k ≤ n → cs p f i k = 0
  | 0, _, _ => rfl
  | k + 1, h, hn => by
    unfold cs
    rw [cs_zero hp f i k (by omega) (by omega)]
    by_cases h0 : 0 < k ∧ p k = i
    · have := hp k h0.1 (by omega); omega
    · rw [if_neg h0]; rfl
theorem cs_congr {p : Nat → Nat} {f f' : Nat → Int} {i : Nat} : ∀ k, (∀ j, 0 < j → j < k → p j = i → f j = f' j) → cs p f i k = cs p f' i k
  | 0, _ => rfl
  | k + 1, h => by
    unfold cs
    rw [cs_congr k (fun j h0 h1 => h j h0 (by omega))]
    by_cases h0 : 0 < k ∧ p k = i
    · rw [if_pos h0, if_pos h0, h k h0.1 (by omega) h0.2]
    · rw [if_neg h0, if_neg h0]
theorem cs_add (p : Nat → Nat) (f f' : Nat → Int) (m : Int) (i : Nat) : ∀ k, cs p (fun j => f j + m * f' j) i k = cs p f i k + m * cs p f' i k
  | 0 => by simp [cs]
  | k + 1 => by
    unfold cs
    rw [cs_add p f f' m i k]
    by_cases h0 : 0 < k ∧ p k = i
    · rw [if_pos h0, if_pos h0, if_pos h0, Int.mul_add]; omega
    · rw [if_neg h0, if_neg h0, if_neg h0, Int.mul_add]; omega
theorem cs_nonneg {p : Nat → Nat} {f : Nat → Int} (hf : ∀ j, 0 ≤ f j) (i : Nat) : ∀ k, 0 ≤ cs p f i k
  | 0 => by simp [cs]
  | k + 1 => by
    have := cs_nonneg hf i k (p := p)
    have := hf k
    unfold cs
    split <;> omega
theorem cs_mono {p : Nat → Nat} {f : Nat → Int} (hf : ∀ j, 0 ≤ f j) (i : Nat) (k : Nat) : ∀ d, cs p f i k ≤ cs p f i (k + d)
  | 0 => by simp
  | d + 1 => by
    have := cs_mono hf i k d (p := p)
    have := hf (k + d)
    have e : cs p f i (k + (d + 1)) = cs p f i (k + d) + if 0 < k + d ∧ p (k + d) = i then f (k + d) else 0 := rfl
    rw [e]
    split <;> omega

/-- parents stand ahead -/
def Gd.fed (g : Gd) : Prop := ∀ k, 0 < k → k < g.nodes.length → g.par k < k
theorem Gd.ok_fed {g : Gd} (h : g.ok) : Gd.fed g := fun _ h0 hk => (Gd.par_lt h h0 hk).1
theorem Gd.fl_step (g : Gd) (l : Nat → Int) (m : Nat) (i : Nat) (hi : g.nodes.length - 1 - m = i) : g.fl l (m + 1) = if 0 < i then upd (upd (g.fl l m) i (g.fl l m i + l i)) (g.par i) ((upd (g.fl l m) i (g.fl l m i + l i)) (g.par i) + (upd (g.fl l m) i (g.fl l m i + l i)) i) else upd (g.fl l m) i (g.fl l m i + l i) := by
  subst hi; rfl
theorem Gd.fl_at {g : Gd} (h : Gd.fed g) (l : Nat → Int) {m i : Nat} (hi : g.nodes.length = m + 1 + i) (j : Nat) :
    g.fl l (m + 1) j = if j = i then g.fl l m i + l i else if 0 < i ∧ g.par i = j then g.fl l m j + (g.fl l m i + l i) else g.fl l m j := by
  rw [Gd.fl_step g l m i (by omega)]
  by_cases h0 : 0 < i
  · have hp := h i h0 (by omega)
    rw [if_pos h0, upd_self, upd_ne _ _ (show g.par i ≠ i by omega)]
    by_cases e : j = i
    · subst e; rw [upd_ne _ _ (show j ≠ g.par j by omega), upd_self, if_pos rfl]
    · rw [if_neg e]
      by_cases e2 : g.par i = j
      · subst e2; rw [upd_self, if_pos ⟨h0, rfl⟩]
      · rw [upd_ne _ _ (Ne.symm e2), upd_ne _ _ e, if_neg (fun q => e2 q.2)]
  · rw [if_neg h0]
    by_cases e : j = i
    · subst e; rw [upd_self, if_pos rfl]
    · rw [upd_ne _ _ e, if_neg e, if_neg (fun q => h0 q.1)]
theorem Gd.fl_stable {g : Gd} (h : Gd.fed g) (l : Nat → Int) {j m : Nat} (hj : g.nodes.length ≤ m + j) : ∀ d, m + d ≤ g.nodes.length → g.fl l (m + d) j = g.fl l m j
  | 0, _ => rfl
  | d + 1, hd => by
    have := Gd.fl_stable h l hj d (by omega)
    obtain ⟨i, hi⟩ : ∃ i, g.nodes.length = (m + d) + 1 + i := ⟨g.nodes.length - (m + d) - 1, by omega⟩
    show g.fl l (m + d + 1) j = _
    rw [Gd.fl_at h l hi j, if_neg (by omega), if_neg (fun q => by have := h i q.1 (by omega); omega), this]
theorem Gd.fl_eq {g : Gd} (h : Gd.fed g) (l : Nat → Int) : ∀ m, m ≤ g.nodes.length → ∀ j,
    g.fl l m j = (if g.nodes.length ≤ m + j ∧ j < g.nodes.length then l j else 0) + (cs g.par (g.flow l) j g.nodes.length - cs g.par (g.flow l) j (g.nodes.length - m))
  | 0, _, j => by
    rw [if_neg (by omega)]
    simp [Gd.fl]
  | m + 1, hm, j => by
    obtain ⟨i, hi⟩ : ∃ i, g.nodes.length = m + 1 + i := ⟨g.nodes.length - m - 1, by omega⟩
    have ih := Gd.fl_eq h l m (by omega)
    have hF : g.flow l i = g.fl l m i + l i := by
      have h1 := Gd.fl_stable h l (j := i) (m := m + 1) (by omega) i (by omega)
      have h2 := Gd.fl_at h l hi i
      rw [if_pos rfl] at h2
      rw [← h2, ← h1]
      unfold Gd.flow; rw [hi]
    have e1 : g.nodes.length - m = i + 1 := by omega
    have e2 : g.nodes.length - (m + 1) = i := by omega
    rw [Gd.fl_at h l hi j, ← hF, ih j, e1, e2]
    have hc : ∀ q, cs g.par (g.flow l) q (i + 1) = cs g.par (g.flow l) q i + if 0 < i ∧ g.par i = q then g.flow l i else 0 := fun q => rfl
    rw [hc]
    by_cases ej : j = i
    · subst ej
      have hni : ¬ (0 < j ∧ g.par j = j) := fun q => by have := h j q.1 (by omega); omega
      have ihj := ih j
      rw [e1, hc, if_neg hni, if_neg (by omega)] at ihj
      rw [if_pos rfl, if_pos (by omega), hF, ihj]; omega
    · rw [if_neg ej]
      by_cases h0 : 0 < i ∧ g.par i = j
      · have := h i h0.1 (by omega)
        rw [if_pos h0, if_pos h0, if_neg (by omega), if_neg (by omega)]; omega
      · rw [if_neg h0, if_neg h0]
        by_cases e3 : g.nodes.length ≤ m + j ∧ j < g.nodes.length
        · rw [if_pos e3, if_pos (by omega)]; omega
        · rw [if_neg e3, if_neg (by omega)]; omega
theorem Gd.flow_eq {g : Gd} (h : Gd.fed g) (l : Nat → Int) {j : Nat} (hj : j < g.nodes.length) : g.flow l j = l j + cs g.par (g.flow l) j g.nodes.length := by
  have := Gd.fl_eq h l _ (Nat.le_refl _) j
  rw [if_pos (by omega), Nat.sub_self] at this
  have h0 : cs g.par (g.flow l) j 0 = 0 := rfl
  rw [h0] at this
  unfold Gd.flow at this ⊢
  omega
theorem Gd.dr_at (g : Gd) (f : Nat → Int) (i j : Nat) : g.dr f (i + 1) j = if 0 < i ∧ j = i then g.dr f i (g.par i) + (g.node i).sag * f i else g.dr f i j := by
  show (if 0 < i then upd (g.dr f i) i (g.dr f i (g.par i) + (g.node i).sag * f i) else g.dr f i) j = _
  by_cases h0 : 0 < i
  · rw [if_pos h0]
    by_cases e : j = i
    · subst e; rw [upd_self, if_pos ⟨h0, rfl⟩]
    · rw [upd_ne _ _ e, if_neg (fun q => e q.2)]
  · rw [if_neg h0, if_neg (fun q => h0 q.1)]
theorem Gd.dr_stable (g : Gd) (f : Nat → Int) (j : Nat) : ∀ d, g.dr f (j + 1 + d) j = g.dr f (j + 1) j
  | 0 => rfl
  | d + 1 => by
    show g.dr f (j + 1 + d + 1) j = _
    rw [Gd.dr_at g f, if_neg (by omega), Gd.dr_stable g f j d]
theorem Gd.drop_dr (g : Gd) (f : Nat → Int) {j k : Nat} (h1 : j < k) (h2 : j < g.nodes.length) : g.drop f j = g.dr f k j := by
  unfold Gd.drop
  have a := Gd.dr_stable g f j (g.nodes.length - (j + 1))
  have b := Gd.dr_stable g f j (k - (j + 1))
  rw [show j + 1 + (g.nodes.length - (j + 1)) = g.nodes.length by omega] at a
  rw [show j + 1 + (k - (j + 1)) = k by omega] at b
  rw [a, b]
theorem Gd.drop_zero (g : Gd) (f : Nat → Int) (h : 0 < g.nodes.length) : g.drop f 0 = 0 := by
  rw [Gd.drop_dr g f (Nat.lt_succ_self 0) h, Gd.dr_at g, if_neg (by omega)]; rfl
theorem Gd.drop_eq {g : Gd} (h : Gd.fed g) (f : Nat → Int) {j : Nat} (h0 : 0 < j) (hj : j < g.nodes.length) : g.drop f j = g.drop f (g.par j) + (g.node j).sag * f j := by
  have := h j h0 hj
  rw [Gd.drop_dr g f (Nat.lt_succ_self j) hj, Gd.dr_at g, if_pos ⟨h0, rfl⟩, ← Gd.drop_dr g f this (by omega)]
/-- what makes a grid's flows and drops small -/
structure Gd.Fit (g : Gd) : Prop where
  len : 1 ≤ g.nodes.length ∧ g.nodes.length ≤ 30
  lim : 0 ≤ g.limit ∧ g.limit ≤ 1000000000000
  load : ∀ i, i < g.nodes.length → (0 ≤ g.lo i ∧ g.lo i ≤ 2000000) ∧ (0 ≤ g.hi i ∧ g.hi i ≤ 2000000)
  inn : ∀ i, 0 < i → i < g.nodes.length → (0 ≤ (g.node i).parent ∧ (g.node i).parent < i) ∧ (0 ≤ (g.node i).fuse ∧ (g.node i).fuse ≤ 10000000) ∧ (0 ≤ (g.node i).sag ∧ (g.node i).sag ≤ 1000)
theorem Gd.ok_fit {g : Gd} (h : g.ok) : Gd.Fit g := ⟨h.len, h.lim, fun i hi => by have := (h.nodes i hi).load; unfold Gd.lo Gd.hi; omega, fun i h0 hi => (h.nodes i hi).inn h0⟩
theorem Gd.Fit.fed {g : Gd} (h : Gd.Fit g) : Gd.fed g := fun k h0 hk => by have := h.inn k h0 hk; unfold Gd.par; omega
theorem Gd.Fit.par {g : Gd} (h : Gd.Fit g) {i : Nat} (h0 : 0 < i) (hi : i < g.nodes.length) : g.par i < i ∧ (g.node i).parent = g.par i := by
  have := h.inn i h0 hi
  unfold Gd.par
  omega
theorem tot_nonneg {f : Nat → Int} (h : ∀ i, 0 ≤ f i) : ∀ k, 0 ≤ tot f k
  | 0 => by simp [tot]
  | k + 1 => by have := tot_nonneg h k; have := h k; unfold tot; omega
theorem Gd.fl_bd2 {g : Gd} (h : Gd.fed g) {M : Int} (hM : 0 ≤ M) {l : Nat → Int} (hl : ∀ i, i < g.nodes.length → 0 ≤ l i ∧ l i ≤ M) : ∀ m, m ≤ g.nodes.length →
    (∀ i, 0 ≤ g.fl l m i ∧ g.fl l m i ≤ m * M) ∧ tot (g.fl l m) (g.nodes.length - m) ≤ m * M
  | 0, _ => ⟨fun i => by simp [Gd.fl], by
      have : ∀ k, tot (fun _ => 0) k = 0 := by intro k; induction k with | zero => rfl | succ k ih => simp [tot, ih]
      show tot (fun _ => 0) _ ≤ _
      rw [this]; simp⟩
  | m + 1, hm => by
    obtain ⟨ih1, ih2⟩ := Gd.fl_bd2 h hM hl m (by omega)
    obtain ⟨i, hi⟩ : ∃ i, g.nodes.length = m + 1 + i := ⟨g.nodes.length - m - 1, by omega⟩
    have hlm := hl i (by omega)
    rw [show g.nodes.length - m = i + 1 by omega] at ih2
    rw [show g.nodes.length - (m + 1) = i by omega]
    have hx : ((m + 1 : Nat) : Int) * M = m * M + M := by rw [Int.natCast_add, Int.add_mul]; simp
    rw [hx]
    generalize (m : Int) * M = mM at *
    have key := fun j => Gd.fl_at h l hi j
    generalize g.fl l (m + 1) = f2 at *
    generalize g.fl l m = f at *
    unfold tot at ih2
    have ht0 := tot_nonneg (fun j => (ih1 j).1) i
    have hfi := ih1 i
    have hall : ∀ j, 0 ≤ f2 j ∧ f2 j ≤ mM + M := by
      intro j
      rw [key j]
      have hfj := ih1 j
      split
      · omega
      · split
        · rename_i h1 h2
          have := (tot_ge (fun j => (ih1 j).1) i j (by have := h i h2.1 (by omega); omega)).1
          omega
        · omega
    refine ⟨hall, ?_⟩
    have hsum : ∀ k, k ≤ i → tot f2 k = tot f k + if 0 < i ∧ g.par i < k then f i + l i else 0 := by
      intro k
      induction k with
      | zero => intro _; simp [tot]
      | succ k ih =>
        intro hk
        unfold tot
        have ihk := ih (by omega)
        have kk := key k
        rw [if_neg (by omega)] at kk
        rw [ihk, kk]
        by_cases e : 0 < i ∧ g.par i = k
        · rw [if_pos e, if_neg (show ¬ (0 < i ∧ g.par i < k) by omega), if_pos (show 0 < i ∧ g.par i < k + 1 by omega)]; omega
        · rw [if_neg e]
          by_cases e2 : 0 < i ∧ g.par i < k
          · rw [if_pos e2, if_pos (show 0 < i ∧ g.par i < k + 1 by omega)]; omega
          · rw [if_neg e2, if_neg (show ¬ (0 < i ∧ g.par i < k + 1) by omega)]; omega
    rw [hsum i (Nat.le_refl _)]
    split <;> omega
theorem Gd.Fit.flow_bd {g : Gd} (h : Gd.Fit g) {l : Nat → Int} (hl : ∀ i, i < g.nodes.length → 0 ≤ l i ∧ l i ≤ 2000000) (i : Nat) : 0 ≤ g.flow l i ∧ g.flow l i ≤ 60000000 := by
  have := (Gd.fl_bd2 h.fed (by omega) hl _ (Nat.le_refl _)).1 i
  have := h.len
  unfold Gd.flow; omega
theorem Gd.Fit.dr_bd {g : Gd} (h : Gd.Fit g) {f : Nat → Int} (hf : ∀ i, 0 ≤ f i ∧ f i ≤ 60000000) : ∀ m, m ≤ g.nodes.length → ∀ i, 0 ≤ g.dr f m i ∧ g.dr f m i ≤ m * 60000000000
  | 0, _, i => by simp [Gd.dr]
  | m + 1, hm, i => by
    have ih := Gd.Fit.dr_bd h hf m (by omega)
    have hx : ((m + 1 : Nat) : Int) * 60000000000 = m * 60000000000 + 60000000000 := by rw [Int.natCast_add, Int.add_mul]; simp
    rw [Gd.dr_at g, hx]
    split
    · rename_i h0
      have h1 := h.inn m h0.1 (by omega)
      have h2 := mul_bd h1.2.2.1 h1.2.2.2 (hf m).1 (hf m).2
      have h3 := ih (g.par m)
      omega
    · have := ih i; omega
theorem Gd.Fit.drop_bd {g : Gd} (h : Gd.Fit g) {f : Nat → Int} (hf : ∀ i, 0 ≤ f i ∧ f i ≤ 60000000) (i : Nat) : 0 ≤ g.drop f i ∧ g.drop f i ≤ 1800000000000 := by
  have := Gd.Fit.dr_bd h hf _ (Nat.le_refl _) i
  have := h.len
  unfold Gd.drop; omega
theorem Gd.Fit.fl {g : Gd} (h : Gd.Fit g) (i : Nat) : (0 ≤ Gd.flo g i ∧ Gd.flo g i ≤ 60000000) ∧ (0 ≤ Gd.fhi g i ∧ Gd.fhi g i ≤ 60000000) :=
  ⟨h.flow_bd (fun i hi => (h.load i hi).1) i, h.flow_bd (fun i hi => (h.load i hi).2) i⟩
theorem Gd.Fit.dr {g : Gd} (h : Gd.Fit g) (i : Nat) : (0 ≤ Gd.dlo g i ∧ Gd.dlo g i ≤ 1800000000000) ∧ (0 ≤ Gd.dhi g i ∧ Gd.dhi g i ≤ 1800000000000) :=
  ⟨h.drop_bd (fun i => (h.fl i).1) i, h.drop_bd (fun i => (h.fl i).2) i⟩
def Gd.blowB (g : Gd) (f : Nat → Int) (i : Nat) : Bool := decide (0 < i ∧ (g.node i).fuse < f i)
def Gd.lowB (g : Gd) (f : Nat → Int) (i : Nat) : Bool := decide (g.limit < f i)
/-- does a fuse blow perhaps, or is a node low perhaps -/
def Gd.badAt (g : Gd) (i : Nat) : Bool := Gd.blowB g (Gd.fhi g) i || Gd.lowB g (Gd.dhi g) i
def Gd.fineB (g : Gd) : Bool := (List.range g.nodes.length).all fun i => !Gd.badAt g i
theorem Gd.fineB_iff (g : Gd) : Gd.fineB g = true ↔ ∀ i, i < g.nodes.length → (0 < i → Gd.fhi g i ≤ (g.node i).fuse) ∧ Gd.dhi g i ≤ g.limit := by
  unfold Gd.fineB
  simp only [List.all_eq_true, List.mem_range, Bool.not_eq_true', Gd.badAt, Gd.blowB, Gd.lowB, Bool.or_eq_false_iff, decide_eq_false_iff_not]
  constructor
  · intro h i hi
    have := h i hi
    exact ⟨fun h0 => by have := this.1; omega, by omega⟩
  · intro h i hi
    have := h i hi
    exact ⟨fun q => by have := this.1 q.1; omega, by omega⟩
end Go.Proofs.Ytopfhinnamhoiaa

/- A grid with more at a node; the spare load is the most that may be plugged in. -/
namespace Go.Proofs.Ytopfhinnamhoiaa
open Go.Yd Go.Pl

def Nd.plus (d : Nd) (m : Int) : Nd := ⟨d.parent, ⟨d.load.lo + m, d.load.hi + m⟩, d.fuse, d.sag⟩
def Gd.more (g : Gd) (x : Nat) (m : Int) : Gd := ⟨g.nodes.set x (Nd.plus (g.node x) m), g.limit⟩
section
variable {g : Gd} {x : Nat} {m : Int}
theorem Gd.more_len : (Gd.more g x m).nodes.length = g.nodes.length := by simp [Gd.more]
theorem Gd.more_node (hx : x < g.nodes.length) (i : Nat) : (Gd.more g x m).node i = if i = x then Nd.plus (g.node x) m else g.node i := by
  unfold Gd.more Gd.node
  simp only [List.getD_eq_getElem?_getD, List.getElem?_set]
  by_cases e : x = i
  · subst e; simp [hx]
  · simp [e, Ne.symm e]
theorem Gd.more_parent (hx : x < g.nodes.length) (i : Nat) : ((Gd.more g x m).node i).parent = (g.node i).parent := by
  rw [Gd.more_node hx]; split
  · rename_i e; subst e; rfl
  · rfl
theorem Gd.more_fuse (hx : x < g.nodes.length) (i : Nat) : ((Gd.more g x m).node i).fuse = (g.node i).fuse := by
  rw [Gd.more_node hx]; split
  · rename_i e; subst e; rfl
  · rfl
theorem Gd.more_sag (hx : x < g.nodes.length) (i : Nat) : ((Gd.more g x m).node i).sag = (g.node i).sag := by
  rw [Gd.more_node hx]; split
  · rename_i e; subst e; rfl
  · rfl
theorem Gd.more_par (hx : x < g.nodes.length) : (Gd.more g x m).par = g.par := by
  funext i; unfold Gd.par; rw [Gd.more_parent hx]
theorem Gd.more_hi (hx : x < g.nodes.length) (i : Nat) : (Gd.more g x m).hi i = g.hi i + if i = x then m else 0 := by
  unfold Gd.hi; rw [Gd.more_node hx]; split
  · rename_i e; subst e; rfl
  · simp
theorem Gd.more_lo (hx : x < g.nodes.length) (i : Nat) : (Gd.more g x m).lo i = g.lo i + if i = x then m else 0 := by
  unfold Gd.lo; rw [Gd.more_node hx]; split
  · rename_i e; subst e; rfl
  · simp
theorem Gd.more_fit (h : g.ok) (hx : x < g.nodes.length) (hm : 0 ≤ m ∧ m ≤ 1000000) : Gd.Fit (Gd.more g x m) := by
  refine ⟨by rw [Gd.more_len]; exact h.len, h.lim, fun i hi => ?_, fun i h0 hi => ?_⟩
  · rw [Gd.more_len] at hi
    have := (h.nodes i hi).load
    rw [Gd.more_lo hx, Gd.more_hi hx]
    unfold Gd.lo Gd.hi
    split <;> omega
  · rw [Gd.more_len] at hi
    rw [Gd.more_parent hx, Gd.more_fuse hx, Gd.more_sag hx]
    exact (h.nodes i hi).inn h0
/-- which nodes a watt at x flows to: x and all above it -/
def Gd.way (g : Gd) : Nat → Nat → Nat → Int
  | 0, x, j => if j = x then 1 else 0
  | k + 1, x, j => (if j = x then 1 else 0) + if x = 0 then 0 else Gd.way g k (g.par x) j
theorem Gd.way_zero (hf : Gd.fed g) : ∀ k x, x ≤ k → x < g.nodes.length → ∀ j, x < j → Gd.way g k x j = 0
  | 0, x, hk, hx, j, hj => by unfold Gd.way; rw [if_neg (by omega)]
  | k + 1, x, hk, hx, j, hj => by
    unfold Gd.way
    rw [if_neg (by omega)]
    by_cases e : x = 0
    · rw [if_pos e]; rfl
    · have := hf x (by omega) hx
      rw [if_neg e, Gd.way_zero hf k (g.par x) (by omega) (by omega) j (by omega)]; rfl
theorem Gd.cs_one {p : Nat → Nat} {n x : Nat} (hp : ∀ k, 0 < k → k < n → p k < k) (hx : x < n) (j : Nat) : ∀ k, cs p (fun i => if i = x then 1 else 0) j k = if x < k ∧ 0 < x ∧ p x = j then 1 else 0
  | 0 => by rw [if_neg (by omega)]; rfl
  | k + 1 => by
    unfold cs
    rw [Gd.cs_one hp hx j k]
    by_cases e : k = x
    · subst e
      rw [if_neg (by omega)]
      by_cases h0 : 0 < k ∧ p k = j
      · rw [if_pos h0, if_pos rfl, if_pos (by omega)]; rfl
      · rw [if_neg h0, if_neg (by omega)]; rfl
    · have h1 : (if 0 < k ∧ p k = j then (if k = x then (1 : Int) else 0) else 0) = 0 := by
        rw [if_neg e]; split <;> rfl
      rw [h1]
      by_cases h2 : x < k ∧ 0 < x ∧ p x = j
      · rw [if_pos h2, if_pos (by omega)]; rfl
      · rw [if_neg h2, if_neg (by omega)]; rfl
theorem Gd.way_eq (hf : Gd.fed g) : ∀ k x, x ≤ k → x < g.nodes.length → ∀ j, Gd.way g k x j = (if j = x then 1 else 0) + cs g.par (Gd.way g k x) j g.nodes.length
  | 0, x, hk, hx, j => by
    have : Gd.way g 0 x = fun i => if i = x then 1 else 0 := rfl
    rw [this, Gd.cs_one hf hx, if_neg (show ¬ (x < g.nodes.length ∧ 0 < x ∧ g.par x = j) by omega)]; simp
  | k + 1, x, hk, hx, j => by
    by_cases e : x = 0
    · have : Gd.way g (k + 1) x = fun i => if i = x then 1 else 0 := by funext i; unfold Gd.way; rw [if_pos e]; simp
      rw [this, Gd.cs_one hf hx, if_neg (show ¬ (x < g.nodes.length ∧ 0 < x ∧ g.par x = j) by omega)]; simp
    · have hp := hf x (by omega) hx
      have ih := Gd.way_eq hf k (g.par x) (by omega) (by omega) j
      have h1 : Gd.way g (k + 1) x = fun i => (fun i => if i = x then 1 else 0) i + 1 * Gd.way g k (g.par x) i := by funext i; show (_ + if x = 0 then 0 else _) = _; rw [if_neg e]; simp
      have h2 : Gd.way g (k + 1) x j = (if j = x then 1 else 0) + Gd.way g k (g.par x) j := by show (_ + if x = 0 then 0 else _) = _; rw [if_neg e]
      rw [h2]
      rw [h1, cs_add, Gd.cs_one hf hx]
      by_cases e2 : g.par x = j
      · subst e2
        rw [if_pos rfl] at ih
        rw [if_pos (show x < g.nodes.length ∧ 0 < x ∧ g.par x = g.par x from ⟨hx, by omega, rfl⟩)]; omega
      · rw [if_neg (Ne.symm e2)] at ih
        rw [if_neg (show ¬ (x < g.nodes.length ∧ 0 < x ∧ g.par x = j) from fun q => e2 q.2.2)]; omega
theorem Gd.flow_more (hf : Gd.fed g) (l : Nat → Int) {k : Nat} (hk : x ≤ k) (hx : x < g.nodes.length) : ∀ d j, j < g.nodes.length → g.nodes.length - j ≤ d → g.flow (fun i => l i + if i = x then m else 0) j = g.flow l j + m * Gd.way g k x j
  | 0, j, hj, hd => by omega
  | d + 1, j, hj, hd => by
    rw [Gd.flow_eq hf _ hj, Gd.flow_eq hf l hj, Gd.way_eq hf k x hk hx j]
    have h1 : cs g.par (g.flow (fun i => l i + if i = x then m else 0)) j g.nodes.length = cs g.par (fun i => g.flow l i + m * Gd.way g k x i) j g.nodes.length := by
      refine cs_congr _ (fun i h0 hi hp => ?_)
      have := hf i h0 hi
      exact Gd.flow_more hf l hk hx d i hi (by omega)
    rw [h1, cs_add, Int.mul_add]
    have h2 : (if j = x then m else 0) = m * (if j = x then 1 else 0) := by split <;> simp
    rw [h2]; omega
theorem Gd.way_up (hf : Gd.fed g) {j : Nat} (h0 : 0 < j) : ∀ k x, x ≤ k → x < g.nodes.length → Gd.way g k x j = if j ∈ Gd.up g k x then 1 else 0
  | 0, x, hk, hx => by
    unfold Gd.way Gd.up
    rw [if_neg (by omega), if_neg (by simp)]
  | k + 1, x, hk, hx => by
    unfold Gd.way Gd.up
    by_cases e : x = 0
    · rw [if_pos e, if_pos e, if_neg (by omega), if_neg (by simp)]; rfl
    · have hp := hf x (by omega) hx
      rw [if_neg e, if_neg e]
      by_cases e2 : j = x
      · subst e2
        rw [if_pos rfl, Gd.way_zero hf k (g.par j) (by omega) (by omega) j hp, if_pos (by simp)]; rfl
      · rw [if_neg e2, Gd.way_up hf h0 k (g.par x) (by omega) (by omega)]
        simp [e2]
end
theorem Gd.flow_cong {g g' : Gd} (hp : g'.par = g.par) (hl : g'.nodes.length = g.nodes.length) (l : Nat → Int) : g'.flow l = g.flow l := by
  unfold Gd.flow
  rw [hl]
  have : ∀ m, g'.fl l m = g.fl l m := by
    intro m
    induction m with
    | zero => rfl
    | succ m ih => unfold Gd.fl; rw [ih, hl, hp]
  exact this _
theorem Gd.drop_cong {g g' : Gd} (hp : g'.par = g.par) (hs : ∀ i, (g'.node i).sag = (g.node i).sag) (hl : g'.nodes.length = g.nodes.length) (f : Nat → Int) : g'.drop f = g.drop f := by
  unfold Gd.drop
  rw [hl]
  have : ∀ m, g'.dr f m = g.dr f m := by
    intro m
    induction m with
    | zero => rfl
    | succ m ih => unfold Gd.dr; rw [ih, hp, hs]
  exact this _
/-- by how much a watt at x raises the drop at j -/
def Gd.rise (g : Gd) (x : Nat) (j : Nat) : Int := Gd.rs g (fun i => decide (i ∈ Gd.up g x x)) (j + 1) j
section
variable {g : Gd} {x : Nat} {m : Int}
theorem Gd.rs_at (g : Gd) (on : Nat → Bool) (i j : Nat) : Gd.rs g on (i + 1) j = if 0 < i ∧ j = i then Gd.rs g on i (g.par i) + (if on i then (g.node i).sag else 0) else Gd.rs g on i j := by
  show (if 0 < i then upd (Gd.rs g on i) i _ else Gd.rs g on i) j = _
  by_cases h0 : 0 < i
  · rw [if_pos h0]
    by_cases e : j = i
    · subst e; rw [upd_self, if_pos (show 0 < j ∧ j = j from ⟨h0, rfl⟩)]
    · rw [upd_ne _ _ e, if_neg (show ¬ (0 < i ∧ j = i) from fun q => e q.2)]
  · rw [if_neg h0, if_neg (show ¬ (0 < i ∧ j = i) from fun q => h0 q.1)]
theorem Gd.rs_stable (g : Gd) (on : Nat → Bool) (j : Nat) : ∀ d, Gd.rs g on (j + 1 + d) j = Gd.rs g on (j + 1) j
  | 0 => rfl
  | d + 1 => by
    show Gd.rs g on (j + 1 + d + 1) j = _
    rw [Gd.rs_at, if_neg (by omega), Gd.rs_stable g on j d]
theorem Gd.rise_zero (g : Gd) (x : Nat) : Gd.rise g x 0 = 0 := by unfold Gd.rise; rw [Gd.rs_at, if_neg (by omega)]; rfl
theorem Gd.rise_eq (hf : Gd.fed g) {j : Nat} (h0 : 0 < j) (hj : j < g.nodes.length) : Gd.rise g x j = Gd.rise g x (g.par j) + if j ∈ Gd.up g x x then (g.node j).sag else 0 := by
  have hp := hf j h0 hj
  unfold Gd.rise
  rw [Gd.rs_at, if_pos ⟨h0, rfl⟩]
  have := Gd.rs_stable g (fun i => decide (i ∈ Gd.up g x x)) (g.par j) (j - (g.par j + 1))
  rw [show g.par j + 1 + (j - (g.par j + 1)) = j by omega] at this
  rw [this]
  simp
theorem Gd.fhi_more (hf : Gd.fed g) (hx : x < g.nodes.length) {j : Nat} (h0 : 0 < j) (hj : j < g.nodes.length) : Gd.fhi (Gd.more g x m) j = Gd.fhi g j + if j ∈ Gd.up g x x then m else 0 := by
  unfold Gd.fhi
  rw [Gd.flow_cong (Gd.more_par hx) Gd.more_len]
  have : (Gd.more g x m).hi = fun i => g.hi i + if i = x then m else 0 := by funext i; exact Gd.more_hi hx i
  rw [this, Gd.flow_more hf g.hi (Nat.le_refl x) hx _ j hj (Nat.le_refl _), Gd.way_up hf h0 x x (Nat.le_refl _) hx]
  split <;> simp
theorem Gd.dhi_more (hf : Gd.fed g) (hx : x < g.nodes.length) : ∀ j, j < g.nodes.length → Gd.dhi (Gd.more g x m) j = Gd.dhi g j + m * Gd.rise g x j := by
  have hd : Gd.dhi (Gd.more g x m) = g.drop (Gd.fhi (Gd.more g x m)) := by
    unfold Gd.dhi
    exact Gd.drop_cong (Gd.more_par hx) (fun i => Gd.more_sag hx i) Gd.more_len _
  have hd2 : Gd.dhi g = g.drop (Gd.fhi g) := rfl
  rw [hd, hd2]
  intro j
  induction j using Nat.strongRecOn with
  | ind j ih =>
    intro hj
    by_cases h0 : 0 < j
    · have hp := hf j h0 hj
      rw [Gd.drop_eq hf _ h0 hj, Gd.drop_eq hf _ h0 hj, ih _ hp (by omega), Gd.rise_eq hf h0 hj, Gd.fhi_more hf hx h0 hj]
      generalize g.drop (Gd.fhi g) (g.par j) = a
      generalize Gd.rise g x (g.par j) = b
      generalize (g.node j).sag = s
      generalize Gd.fhi g j = c
      split
      · rw [Int.mul_add, Int.mul_add, Int.mul_comm s m]; omega
      · rw [Int.mul_add, Int.mul_add]; simp; omega
    · obtain rfl : j = 0 := by omega
      rw [Gd.drop_zero g _ (by omega), Gd.drop_zero g _ (by omega), Gd.rise_zero]; simp
theorem le_mst1 (g : Gd) (k : Int) : ∀ (l : List Nat) (c : Int), k ≤ mst1 g c l ↔ k ≤ c ∧ ∀ i ∈ l, k ≤ Gd.fuseOf g i - Gd.fhi g i
  | [], c => by simp [mst1]
  | a :: l, c => by
    have : mst1 g c (a :: l) = mst1 g (if Gd.fuseOf g a - Gd.fhi g a < c then Gd.fuseOf g a - Gd.fhi g a else c) l := rfl
    rw [this, le_mst1 g k l]
    simp only [List.mem_cons, forall_eq_or_imp]
    constructor
    · rintro ⟨h1, h2⟩; refine ⟨?_, ?_, h2⟩ <;> split at h1 <;> omega
    · rintro ⟨h1, h2, h3⟩; refine ⟨?_, h3⟩; split <;> omega
theorem le_mst2 (g : Gd) (on : Nat → Bool) (c k : Int) : ∀ n, k ≤ mst2 g on c n ↔ k ≤ c ∧ ∀ i, i < n → 0 < Gd.rs g on (i + 1) i → k ≤ (g.limit - Gd.dhi g i).tdiv (Gd.rs g on (i + 1) i)
  | 0 => by simp [mst2]
  | n + 1 => by
    have : mst2 g on c (n + 1) = stp2 g (Gd.rs g on (n + 1) n) (mst2 g on c n) n := rfl
    rw [this]
    unfold stp2
    have ih := le_mst2 g on c k n
    constructor
    · intro h
      have h1 : k ≤ mst2 g on c n := by
        split at h
        · split at h
          · omega
          · exact h
        · exact h
      obtain ⟨h2, h3⟩ := ih.1 h1
      refine ⟨h2, fun i hi hr => ?_⟩
      by_cases e : i = n
      · subst e
        rw [if_pos hr] at h
        split at h
        · exact h
        · omega
      · exact h3 i (by omega) hr
    · rintro ⟨h2, h3⟩
      have h1 := ih.2 ⟨h2, fun i hi hr => h3 i (by omega) hr⟩
      split
      · rename_i hr
        have := h3 n (by omega) hr
        split
        · exact this
        · exact h1
      · exact h1
theorem Gd.not_bad_iff (h : g.ok) : Gd.bad g = false ↔ Gd.fineB g = true := by
  rw [Gd.fineB_iff]
  constructor
  · intro hb i hi
    have := Gd.not_bad hb
    refine ⟨fun h0 => ?_, this.2 i hi⟩
    have := this.1 i hi
    unfold Gd.fuseOf at this
    rwa [if_neg (by omega)] at this
  · intro hf
    have key : ∀ (lim f : Nat → Int), (∀ i, i < g.nodes.length → f i ≤ lim i) → (overN lim f g.nodes.length).length = 0 := by
      intro lim f h0
      refine List.length_eq_zero_iff.2 (List.filter_eq_nil_iff.2 fun i hi => ?_)
      have := h0 i (by simpa using hi)
      simpa using this
    unfold Gd.bad
    rw [key _ _ (fun i hi => ?_), key _ _ (fun i hi => (hf i hi).2)]
    · rfl
    · unfold Gd.fuseOf
      split
      · have := Gd.fhi_bd h i; omega
      · exact (hf i hi).1 (by omega)
theorem Gd.fine_more (h : g.ok) (hg : Gd.fineB g = true) (hx : x < g.nodes.length) (hm : 0 ≤ m ∧ m ≤ 1000000) : Gd.fineB (Gd.more g x m) = true ↔ m ≤ Gd.spare g x := by
  have hf := Gd.ok_fed h
  have hg' := (Gd.fineB_iff g).1 hg
  rw [Gd.fineB_iff, Gd.more_len]
  unfold Gd.spare
  rw [le_mst2, le_mst1]
  have hlim : (Gd.more g x m).limit = g.limit := rfl
  rw [hlim]
  have hr : ∀ i, Gd.rs g (fun i => decide (i ∈ Gd.up g x x)) (i + 1) i = Gd.rise g x i := fun i => rfl
  constructor
  · intro hq
    refine ⟨⟨hm.2, fun i hi => ?_⟩, fun i hi hri => ?_⟩
    · have hl := Gd.up_lt h x x i hx hi
      have := (hq i hl.2).1 hl.1
      rw [Gd.fhi_more hf hx hl.1 hl.2, if_pos hi, Gd.more_fuse hx] at this
      unfold Gd.fuseOf
      rw [if_neg (by omega)]; omega
    · rw [hr] at hri ⊢
      have := (hq i hi).2
      rw [Gd.dhi_more hf hx i hi] at this
      rw [Int.tdiv_eq_ediv_of_nonneg (by have := (hg' i hi).2; omega)]
      exact (Int.le_ediv_iff_mul_le hri).2 (by omega)
  · rintro ⟨⟨-, hq⟩, hp⟩ i hi
    refine ⟨fun h0 => ?_, ?_⟩
    · rw [Gd.fhi_more hf hx h0 hi, Gd.more_fuse hx]
      by_cases hu : i ∈ Gd.up g x x
      · rw [if_pos hu]
        have := hq i hu
        unfold Gd.fuseOf at this
        rw [if_neg (by omega)] at this
        omega
      · rw [if_neg hu]
        have := (hg' i hi).1 h0
        omega
    · rw [Gd.dhi_more hf hx i hi]
      have hd := (hg' i hi).2
      have hri := Gd.rs_bd h (fun i => decide (i ∈ Gd.up g x x)) (i + 1) (by omega) i
      rw [hr] at hri
      by_cases e : 0 < Gd.rise g x i
      · have := hp i hi (by rw [hr]; exact e)
        rw [hr, Int.tdiv_eq_ediv_of_nonneg (by omega)] at this
        have := (Int.le_ediv_iff_mul_le e).1 this
        omega
      · have : Gd.rise g x i = 0 := by omega
        rw [this]; simp; exact hd
theorem Gd.spare_bd (h : g.ok) (hg : Gd.fineB g = true) (hx : x < g.nodes.length) : 0 ≤ Gd.spare g x ∧ Gd.spare g x ≤ 1000000 := by
  constructor
  · rw [← Gd.fine_more h hg hx (m := 0) (by omega)]
    have hf := Gd.ok_fed h
    have hg' := (Gd.fineB_iff g).1 hg
    rw [Gd.fineB_iff, Gd.more_len]
    intro i hi
    refine ⟨fun h0 => ?_, ?_⟩
    · rw [Gd.fhi_more hf hx h0 hi, Gd.more_fuse hx]
      have := (hg' i hi).1 h0
      split <;> omega
    · rw [Gd.dhi_more hf hx i hi]
      have := (hg' i hi).2
      simp
      exact this
  · have h1 := (le_mst2 g (fun i => decide (i ∈ Gd.up g x x)) (mst1 g 1000000 (Gd.up g x x)) (Gd.spare g x) g.nodes.length).1 (Int.le_refl _)
    exact ((le_mst1 g _ _ _).1 h1.1).1
end
end Go.Proofs.Ytopfhinnamhoiaa

/- Walk: the grid's reference: Flow, Drop. -/
namespace Go.Proofs.Ytopfhinnamhoiaa
open Go.RowKit Go.Bs Go.Yd Go.Pl Go.Sort

/-- what the walks of Flow and Drop keep -/
structure FwI (w W : World) (A : Option Addr) (n cap : Nat) (lim a b : Int) : Prop where
  bl : Below w.heap.size w W
  b0 : Blk W w.heap.size 37 [.slice A n cap, .int .i64 lim]
  b1 : Blk W (w.heap.size + 1) 50 [.int .i64 0, .int .i64 0]
  b2 : Blk W (w.heap.size + 2) 50 [.int .i64 a, .int .i64 b]
section
variable {w W W' : World} {A : Option Addr} {n cap : Nat} {lim a b : Int}
theorem FwI.ext (h : FwI w W A n cap lim a b) (hb : Below W.heap.size W W') : FwI w W' A n cap lim a b :=
  ⟨ext_trans h.bl hb, h.b0.ext hb, h.b1.ext hb, h.b2.ext hb⟩
theorem FwI.set (h : FwI w W A n cap lim a b) (x y : Int) : FwI w ((W.setCell ⟨w.heap.size + 2, 0, none⟩ (.int .i64 x)).setCell ⟨w.heap.size + 2, 1, none⟩ (.int .i64 y)) A n cap lim x y :=
  ⟨(h.bl.setCell (by simp) _).setCell (by simp) _, (h.b0.other (by simp) _).other (by simp) _, (h.b1.other (by simp) _).other (by simp) _, (h.b2.set 0 _).set 1 _⟩
theorem FwI.x0 (h : FwI w W A n cap lim a b) : W.cell? ⟨w.heap.size, 0, none⟩ = some (.slice A n cap) := h.b0.cell rfl
theorem FwI.x1 (h : FwI w W A n cap lim a b) : W.cell? ⟨w.heap.size, 1, none⟩ = some (.int .i64 lim) := h.b0.cell rfl
theorem FwI.y0 (h : FwI w W A n cap lim a b) : W.cell? ⟨w.heap.size + 2, 0, none⟩ = some (.int .i64 a) := h.b2.cell rfl
theorem FwI.y1 (h : FwI w W A n cap lim a b) : W.cell? ⟨w.heap.size + 2, 1, none⟩ = some (.int .i64 b) := h.b2.cell rfl
theorem FwI.fin (h : FwI w W A n cap lim a b) (x y : Int) : ∃ W', (W.setCell ⟨w.heap.size + 1, 0, none⟩ (.int .i64 x)).setCell ⟨w.heap.size + 1, 1, none⟩ (.int .i64 y) = W' ∧ Below w.heap.size w W' ∧ Blk W' (w.heap.size + 1) 50 [.int .i64 x, .int .i64 y] :=
  ⟨_, rfl, (h.bl.setCell (by simp) _).setCell (by simp) _, (h.b1.set 0 _).set 1 _⟩
theorem FwI.start (w : World) (A : Option Addr) (n cap : Nat) (lim a b : Int) : FwI w (((w.alloc (.cells #[.slice A n cap, .int .i64 lim] 37)).alloc (.cells #[.int .i64 0, .int .i64 0] 50)).alloc (.cells #[.int .i64 a, .int .i64 b] 50)) A n cap lim a b := by
  refine ⟨((ext_alloc w _).alloc (by simp) _).alloc (by simp; omega) _, ?_, ?_, ?_⟩
  · exact ((Blk.new w 37 [.slice A n cap, .int .i64 lim]).alloc _).alloc _
  · have := (Blk.new (w.alloc (.cells #[.slice A n cap, .int .i64 lim] 37)) 50 [.int .i64 0, .int .i64 0]).alloc (.cells #[.int .i64 a, .int .i64 b] 50)
    simpa using this
  · have := Blk.new ((w.alloc (.cells #[.slice A n cap, .int .i64 lim] 37)).alloc (.cells #[.int .i64 0, .int .i64 0] 50)) 50 [.int .i64 a, .int .i64 b]
    simpa using this
end

def RngPost (a b : Int) (w : World) (e : Ending) (w' : World) : Prop := e = .returned (.agg #[.int .i64 a, .int .i64 b]) ∧ Below w.heap.size w w'

theorem cs_le {p : Nat → Nat} {f : Nat → Int} (hf : ∀ j, 0 ≤ f j) (i : Nat) {k n : Nat} (h : k ≤ n) : cs p f i k ≤ cs p f i n := by
  have := cs_mono hf i k (n - k) (p := p)
  rwa [show k + (n - k) = n by omega] at this
theorem cs_bd {g : Gd} (h : Gd.Fit g) {l : Nat → Int} (hl : ∀ i, i < g.nodes.length → 0 ≤ l i ∧ l i ≤ 2000000) {i : Nat} (hi : i < g.nodes.length) {k : Nat} (hk : k ≤ g.nodes.length) : 0 ≤ l i + cs g.par (g.flow l) i k ∧ l i + cs g.par (g.flow l) i k ≤ 60000000 := by
  have h1 := cs_le (p := g.par) (f := g.flow l) (fun j => (h.flow_bd hl j).1) i hk
  have h2 := Gd.flow_eq h.fed l hi
  have h3 := h.flow_bd hl i
  have h4 := cs_nonneg (p := g.par) (f := g.flow l) (fun j => (h.flow_bd hl j).1) i k
  have h5 := hl i hi
  omega

set_option maxRecDepth 100000 in
set_option maxHeartbeats 4000000 in
theorem Flow_any (g : Gd) (hf : Gd.Fit g) (A : Option Addr) (n cap : Nat) (hn : g.nodes.length = n) : ∀ (d i : Nat) (w : World), i < n → n - i ≤ d → GdAt w A g →
    Calls Try.prog 46 #[.agg #[.slice A n cap, .int .i64 g.limit], .int .i64 i] w (RngPost (Gd.flo g i) (Gd.fhi g i) w)
  | 0, i, w, hi, hdd, hd => by omega
  | d + 1, i, w, hi, hdd, hd => by
    have ih := Lib.hid (Flow_any g hf A n cap hn d)
    have hlen := hf.len
    have hin : (i : Int) < (n : Int) := by omega
    have hi0 : (0 : Int) ≤ (i : Int) := by omega
    have Hn := Lib.hid hn
    have e1 := Gd.flow_eq hf.fed g.lo (j := i) (by omega)
    have e2 := Gd.flow_eq hf.fed g.hi (j := i) (by omega)
    have B1 := Lib.hid (fun k (hk : k ≤ g.nodes.length) => cs_bd hf (fun i hi => (hf.load i hi).1) (i := i) (by omega) hk)
    have B2 := Lib.hid (fun k (hk : k ≤ g.nodes.length) => cs_bd hf (fun i hi => (hf.load i hi).2) (i := i) (by omega) hk)
    have E1 := Lib.hid e1
    have E2 := Lib.hid e2
    have z1 := Lib.hid (cs_zero hf.fed (g.flow g.lo) i (i + 1) (by omega) (by omega))
    have z2 := Lib.hid (cs_zero hf.fed (g.flow g.hi) i (i + 1) (by omega) (by omega))
    obtain ⟨b, off, rfl, hb, c0, c1, c2, c3, c4⟩ := hd.node (k := i) (by omega)
    clear e1 e2 c3 c4 c0
    have hS := FwI.start w (some ⟨b, off, none⟩) n cap g.limit (g.node i).load.lo (g.node i).load.hi
    go_enter Try.func46, Try.ntmps46
    go_upto_region 2 with fail
    generalize ((w.alloc (.cells #[.slice (some ⟨b, off, none⟩) n cap, .int .i64 g.limit] 37)).alloc (.cells #[.int .i64 0, .int .i64 0] 50)).alloc (.cells #[.int .i64 (g.node i).load.lo, .int .i64 (g.node i).load.hi] 50) = W0 at *
    clear c1 c2
    go_wp2
    go_loopw [6] (fun x wr => ∃ (k : Nat) (a c : Int), x = .int .i64 k ∧ (i < k ∧ k ≤ n) ∧ Hid (a = g.lo i + cs g.par (g.flow g.lo) i k) ∧ Hid (c = g.hi i + cs g.par (g.flow g.hi) i k) ∧ FwI w wr (some ⟨b, off, none⟩) n cap g.limit a c) (fun x _ => n - (intOf x).toNat)
    case atStart => exact ⟨i + 1, _, _, by go_num, by omega, Lib.hid (by rw [z1.out]; simp [Gd.lo]), Lib.hid (by rw [z2.out]; simp [Gd.hi]), hS⟩
    case round =>
      clear hS
      obtain ⟨k, a, c, rfl, hk, Ha, Hc, hS⟩ := hrel
      by_cases hlt : k < n
      · have hlt' : (k : Int) < (n : Int) := by omega
        have hk0 : (0 : Int) ≤ (k : Int) := by omega
        have hpar := (hf.par (i := k) (by omega) (by omega)).2
        obtain ⟨b', off', e, -, c0, -, -, -, -⟩ := (hd.ext hS.bl).node (k := k) (by omega)
        cases e
        rw [hpar] at c0
        have x0 := hS.x0
        have x1 := hS.x1
        have s1 : cs g.par (g.flow g.lo) i (k + 1) = cs g.par (g.flow g.lo) i k + if 0 < k ∧ g.par k = i then g.flow g.lo k else 0 := rfl
        have s2 : cs g.par (g.flow g.hi) i (k + 1) = cs g.par (g.flow g.hi) i k + if 0 < k ∧ g.par k = i then g.flow g.hi k else 0 := rfl
        have n1 := B1.out (k + 1) (by omega)
        have n2 := B2.out (k + 1) (by omega)
        clear hpar
        by_cases hp : g.par k = i
        · rw [if_pos ⟨by omega, hp⟩] at s1 s2
          rw [s1] at n1
          rw [s2] at n2
          rw [hp] at c0
          have hb1 := Ha.out
          have hb2 := Hc.out
          have S1 := Lib.hid s1
          have S2 := Lib.hid s2
          have m1 : 0 ≤ a + g.flow g.lo k ∧ a + g.flow g.lo k ≤ 60000000 := by rw [hb1]; omega
          have m2 : 0 ≤ c + g.flow g.hi k ∧ c + g.flow g.hi k ≤ 60000000 := by rw [hb2]; omega
          clear s1 s2 n1 n2 hb1 hb2 hp
          go_wp2_with fail
          refine (ih.out k wr hlt (by omega) (hd.ext hS.bl)).mono ?_
          rintro e w1 ⟨rfl, hb1⟩
          have hS2 := (hS.ext hb1).ext (ext_alloc w1 (.cells #[.int .i64 (Gd.flo g k), .int .i64 (Gd.fhi g k)] 50))
          have hbx := Blk.new w1 50 [.int .i64 (Gd.flo g k), .int .i64 (Gd.fhi g k)]
          have hy := hS.y0
          have hsz := cell_lt (cell_ext hy hb1)
          clear hS x0 x1 c0 hy
          go_upto_region 7 with fail
          change Blk (w1.alloc (.cells #[.int .i64 (Gd.flo g k), .int .i64 (Gd.fhi g k)] 50)) w1.heap.size 50 [.int .i64 (Gd.flo g k), .int .i64 (Gd.fhi g k)] at hbx
          generalize w1.alloc (.cells #[.int .i64 (Gd.flo g k), .int .i64 (Gd.fhi g k)] 50) = W2 at *
          have y0 := hS2.y0
          have y1 := hS2.y1
          have q0 := hbx.cell (i := 0) rfl
          have q1 := hbx.cell (i := 1) rfl
          have f0 := hS2.b2.free 0
          have f1 := hS2.b2.free 1
          have hflo : Gd.flo g k = g.flow g.lo k := rfl
          have hfhi : Gd.fhi g k = g.flow g.hi k := rfl
          rw [hflo] at q0
          rw [hfhi] at q1
          go_wp2
          go_roundw
          case rel => exact ⟨k + 1, _, _, by go_num, by omega, Lib.hid (by rw [S1.out, Ha.out]; omega), Lib.hid (by rw [S2.out, Hc.out]; omega), hS2.set _ _⟩
          case measure => simp [intOf]; omega
        · rw [if_neg (fun q => hp q.2)] at s1 s2
          have S1 := Lib.hid s1
          have S2 := Lib.hid s2
          have hp' : ((g.par k : Int) == (i : Int)) = false := by simp; omega
          clear s1 s2 n1 n2 hp
          go_wp2
          go_roundw
          case rel => exact ⟨k + 1, a, c, by go_num, by omega, Lib.hid (by rw [S1.out, Ha.out]; omega), Lib.hid (by rw [S2.out, Hc.out]; omega), hS⟩
          case measure => simp [intOf]; omega
      · obtain rfl : k = n := by omega
        have x0 := hS.x0
        have y0 := hS.y0
        have y1 := hS.y1
        have f0 := hS.b1.free 0
        have f1 := hS.b1.free 1
        have t0 : wr.cell? ⟨w.heap.size + 1, 0, none⟩ = _ := hS.b1.cell rfl
        have t1 : wr.cell? ⟨w.heap.size + 1, 1, none⟩ = _ := hS.b1.cell rfl
        go_wp2
        obtain ⟨W, hW, hb, hR⟩ := hS.fin a c
        rw [hW]
        have s0 : W.cell? ⟨w.heap.size + 1, 0, none⟩ = _ := hR.cell rfl
        have s1 : W.cell? ⟨w.heap.size + 1, 1, none⟩ = _ := hR.cell rfl
        have r0 : a = Gd.flo g i := by rw [Ha.out]; show _ = g.flow g.lo i; rw [E1.out, Hn.out]
        have r1 : c = Gd.fhi g i := by rw [Hc.out]; show _ = g.flow g.hi i; rw [E2.out, Hn.out]
        clear hS x0 y0 y1 f0 f1 t0 t1 hW
        refine bodyPost_ret (v := .agg #[.int .i64 a, .int .i64 c]) (by simp [results, Try.results46, go_sem, s0, s1]) rfl ?_
        exact ⟨by rw [r0, r1], hb⟩

set_option maxRecDepth 100000 in
set_option maxHeartbeats 4000000 in
theorem Drop_any (g : Gd) (hf : Gd.Fit g) (A : Option Addr) (n cap i : Nat) (w : World) (hn : g.nodes.length = n) (hi : i < n) (hd : GdAt w A g) :
    Calls Try.prog 47 #[.agg #[.slice A n cap, .int .i64 g.limit], .int .i64 i] w (RngPost (Gd.dlo g i) (Gd.dhi g i) w) := by
  have Hn := Lib.hid hn
  have hlen := hf.len
  have hS := FwI.start w A n cap g.limit 0 0
  obtain ⟨b, off, rfl, hb, -, -, -, -, -⟩ := hd.node (k := i) (by omega)
  go_enter Try.func47, Try.ntmps47
  go_upto_region 2 with fail
  generalize ((w.alloc (.cells #[.slice (some ⟨b, off, none⟩) n cap, .int .i64 g.limit] 37)).alloc (.cells #[.int .i64 0, .int .i64 0] 50)).alloc (.cells #[.int .i64 0, .int .i64 0] 50) = W0 at *
  go_wp2
  go_loopw [1] (fun x wr => ∃ (k : Nat) (a c : Int), x = .int .i64 k ∧ k < n ∧ Hid (a + Gd.dlo g k = Gd.dlo g i) ∧ Hid (c + Gd.dhi g k = Gd.dhi g i) ∧ (0 ≤ a ∧ 0 ≤ c) ∧ FwI w wr (some ⟨b, off, none⟩) n cap g.limit a c) (fun x _ => (intOf x).toNat)
  case atStart => exact ⟨i, 0, 0, rfl, hi, Lib.hid (by omega), Lib.hid (by omega), by omega, hS⟩
  case round =>
    clear hS
    obtain ⟨k, a, c, rfl, hk, Ha, Hc, hac, hS⟩ := hrel
    by_cases hlt : 0 < k
    · have hlt' : (0 : Int) < (k : Int) := by omega
      have hkn : (k : Int) < (n : Int) := by omega
      have hk0 : (0 : Int) ≤ (k : Int) := by omega
      have hpar := hf.par (i := k) hlt (by omega)
      have hinn := hf.inn k hlt (by omega)
      have hx0 := hS.x0
      have hx1 := hS.x1
      go_wp2_with fail
      refine (Flow_any g hf (some ⟨b, off, none⟩) n cap hn n k wr hk (by omega) (hd.ext hS.bl)).mono ?_
      rintro e w1 ⟨rfl, hb1⟩
      have hS2 := (hS.ext hb1).ext (ext_alloc w1 (.cells #[.int .i64 (Gd.flo g k), .int .i64 (Gd.fhi g k)] 50))
      have hbx := Blk.new w1 50 [.int .i64 (Gd.flo g k), .int .i64 (Gd.fhi g k)]
      have hsz := cell_lt (cell_ext hS.y0 hb1)
      clear hS hx0 hx1 hb1
      go_upto_region 4 with fail
      change Blk (w1.alloc (.cells #[.int .i64 (Gd.flo g k), .int .i64 (Gd.fhi g k)] 50)) w1.heap.size 50 [.int .i64 (Gd.flo g k), .int .i64 (Gd.fhi g k)] at hbx
      generalize w1.alloc (.cells #[.int .i64 (Gd.flo g k), .int .i64 (Gd.fhi g k)] 50) = W2 at *
      refine Dr.wp_region_plan 25 [] (.q [0, 1, 2, 3, 4, 5, 6, 7, 8, 9, 10, 11, 12, 13, 14, 15, 16, 17, 18, 19, 20, 21, 22, 23, 24] .done) (by kernel_rfl) (by kernel_rfl) ?_
      have hS3 := hS2.ext (ext_drew W2)
      have hbx3 := hbx.ext (ext_drew W2)
      clear hS2 hbx
      generalize World.drew _ = W3 at *
      obtain ⟨b', off', e, -, c0, -, -, -, c4⟩ := (hd.ext hS3.bl).node (k := k) (by omega)
      cases e
      have hfl := hf.fl k
      have m1 := mul_bd hinn.2.2.1 hinn.2.2.2 hfl.1.1 hfl.1.2
      have m2 := mul_bd hinn.2.2.1 hinn.2.2.2 hfl.2.1 hfl.2.2
      have D1 := Gd.drop_eq hf.fed (g.flow g.lo) hlt (by omega)
      have D2 := Gd.drop_eq hf.fed (g.flow g.hi) hlt (by omega)
      have t1 := (hf.dr i)
      have t2 := (hf.dr (g.par k))
      have u1 : a + ((g.node k).sag * Gd.flo g k) + Gd.dlo g (g.par k) = Gd.dlo g i := by
        have h1 := Ha.out
        have h2 : Gd.dlo g k = Gd.dlo g (g.par k) + (g.node k).sag * Gd.flo g k := D1
        omega
      have u2 : c + ((g.node k).sag * Gd.fhi g k) + Gd.dhi g (g.par k) = Gd.dhi g i := by
        have h1 := Hc.out
        have h2 : Gd.dhi g k = Gd.dhi g (g.par k) + (g.node k).sag * Gd.fhi g k := D2
        omega
      have v1 : 0 ≤ a + ((g.node k).sag * Gd.flo g k) ∧ a + ((g.node k).sag * Gd.flo g k) ≤ 2000000000000 := by omega
      have v2 : 0 ≤ c + ((g.node k).sag * Gd.fhi g k) ∧ c + ((g.node k).sag * Gd.fhi g k) ≤ 2000000000000 := by omega
      have U1 := Lib.hid u1
      have U2 := Lib.hid u2
      have hp1 := hpar.1
      have Hpar := Lib.hid hpar.2
      rw [hpar.2] at c0
      clear u1 u2 D1 D2 t1 t2 hpar
      have q0 := Dr.cell0 hS3.x0
      have q1 := Dr.cell0 hS3.y0
      have q2 := Dr.cell0 hS3.y1
      have q3 := Dr.cell0 c4
      have q4 := Dr.cell0 (hbx3.cell (i := 0) rfl)
      have q5 := Dr.cell0 (hbx3.cell (i := 1) rfl)
      generalize (g.node k).sag = sg at *
      generalize Gd.flo g k = fl0 at *
      generalize Gd.fhi g k = fl1 at *
      generalize hp0 : sg * fl0 = p0 at *
      generalize hp1' : sg * fl1 = p1 at *
      refine Dr.plan_q (l := [_, _, _, _, _, _, _, _, _, _, _, _, _, _, _, _, _, _, _, _, _, _, _, _, _]) rfl (fun K hK => ?_)
      iterate 25 (go_big_quiet_step (fail))
      refine wpQuiet_nil (hK _ ?_); clear hK K
      refine Dr.plan_done (tl := [_]) rfl ?_
      clear q0 q1 q2 q3 q4 q5
      have f0 := hS3.b2.free 0
      have f1 := hS3.b2.free 1
      have y0 := hS3.y0
      have y1 := hS3.y1
      have x0 := hS3.x0
      have hS4 := hS3.set (a + p0) (c + p1)
      have x4 := hS4.x0
      obtain ⟨b', off', e, -, c0, -, -, -, -⟩ := (hd.ext hS4.bl).node (k := k) (by omega)
      cases e
      rw [Hpar.out] at c0
      go_wp2
      go_roundw
      case rel => exact ⟨g.par k, _, _, rfl, by omega, U1, U2, by omega, hS4⟩
      case measure => simp [intOf]; omega
    · obtain rfl : k = 0 := by omega
      have d0 := Gd.drop_zero g (g.flow g.lo) (by omega)
      have d1 := Gd.drop_zero g (g.flow g.hi) (by omega)
      have x0 := hS.x0
      have y0 := hS.y0
      have y1 := hS.y1
      have f0 := hS.b1.free 0
      have f1 := hS.b1.free 1
      have t0 : wr.cell? ⟨w.heap.size + 1, 0, none⟩ = _ := hS.b1.cell rfl
      have t1 : wr.cell? ⟨w.heap.size + 1, 1, none⟩ = _ := hS.b1.cell rfl
      have r0 : a = Gd.dlo g i := by have := Ha.out; unfold Gd.dlo at this ⊢; omega
      have r1 : c = Gd.dhi g i := by have := Hc.out; unfold Gd.dhi at this ⊢; omega
      have R0 := Lib.hid r0
      have R1 := Lib.hid r1
      clear d0 d1 r0 r1
      go_wp2
      obtain ⟨W, hW, hb, hR⟩ := hS.fin a c
      rw [hW]
      have s0 : W.cell? ⟨w.heap.size + 1, 0, none⟩ = _ := hR.cell rfl
      have s1 : W.cell? ⟨w.heap.size + 1, 1, none⟩ = _ := hR.cell rfl
      clear hS x0 y0 y1 f0 f1 t0 t1 hW
      refine bodyPost_ret (v := .agg #[.int .i64 a, .int .i64 c]) (by simp [results, Try.results47, go_sem, s0, s1]) rfl ?_
      exact ⟨by rw [R0.out, R1.out], hb⟩

set_option maxRecDepth 100000 in
set_option maxHeartbeats 2000000 in
theorem BlownR_any (g : Gd) (hf : Gd.Fit g) (A : Option Addr) (n cap i : Nat) (w : World) (hn : g.nodes.length = n) (hi : i < n) (hd : GdAt w A g) :
    Calls Try.prog 48 #[.agg #[.slice A n cap, .int .i64 g.limit], .int .i64 i] w fun e w' => e = .returned (.tuple #[.bool (Gd.blowB g (Gd.fhi g) i), .bool (Gd.blowB g (Gd.flo g) i)]) ∧ Below w.heap.size w w' := by
  have hb0 := ext_alloc w (.cells #[.slice A n cap, .int .i64 g.limit] 37)
  have hB := Blk.new w 37 [.slice A n cap, .int .i64 g.limit]
  have hin : (i : Int) < (n : Int) := by omega
  have hi0 : (0 : Int) ≤ (i : Int) := by omega
  obtain ⟨b, off, rfl, hb, -, -, -, -, -⟩ := hd.node (k := i) (by omega)
  generalize hr1 : Gd.blowB g (Gd.fhi g) i = r1
  generalize hr2 : Gd.blowB g (Gd.flo g) i = r2
  have Hr1 := Lib.hid hr1
  have Hr2 := Lib.hid hr2
  clear hr1 hr2
  go_enter Try.func48, Try.ntmps48
  go_wp2_with fail
  refine (Flow_any g hf (some ⟨b, off, none⟩) n cap hn n i _ hi (by omega) (hd.ext hb0)).mono ?_
  rintro e w1 ⟨rfl, hb1⟩
  have hB1 := (hB.ext hb1).ext (ext_alloc w1 (.cells #[.int .i64 (Gd.flo g i), .int .i64 (Gd.fhi g i)] 50))
  have hbx := Blk.new w1 50 [.int .i64 (Gd.flo g i), .int .i64 (Gd.fhi g i)]
  have hb2 := ext_trans (ext_trans hb0 hb1) (ext_alloc w1 (.cells #[.int .i64 (Gd.flo g i), .int .i64 (Gd.fhi g i)] 50))
  clear hB hb0 hb1
  go_upto_region 2 with fail
  change Blk (w1.alloc (.cells #[.int .i64 (Gd.flo g i), .int .i64 (Gd.fhi g i)] 50)) w1.heap.size 50 [.int .i64 (Gd.flo g i), .int .i64 (Gd.fhi g i)] at hbx
  generalize w1.alloc (.cells #[.int .i64 (Gd.flo g i), .int .i64 (Gd.fhi g i)] 50) = W2 at *
  refine Dr.wp_region_plan 28 [] (.q [0, 1, 2, 3, 4, 5, 6, 7, 8, 9, 10, 11, 12, 13, 14, 15, 16, 17, 18, 19, 20, 21, 22, 23, 24, 25, 26, 27] .done) (by kernel_rfl) (by kernel_rfl) ?_
  have hB3 := hB1.ext (ext_drew W2)
  have hbx3 := hbx.ext (ext_drew W2)
  have hb3 := hb2.drew
  clear hB1 hbx hb2
  generalize World.drew _ = W3 at *
  obtain ⟨b', off', e, -, -, -, -, c3, -⟩ := (hd.ext hb3).node (k := i) (by omega)
  cases e
  have q0 := Dr.cell0 (hB3.cell (i := 0) rfl)
  have q1 := Dr.cell0 c3
  have q2 := Dr.cell0 (hbx3.cell (i := 0) rfl)
  have q3 := Dr.cell0 (hbx3.cell (i := 1) rfl)
  by_cases h0 : 0 < i
  · have h0' : (0 : Int) < (i : Int) := by omega
    have R1 := Lib.hid (show decide ((g.node i).fuse < Gd.fhi g i) = r1 by rw [← Hr1.out]; simp [Gd.blowB, h0])
    have R2 := Lib.hid (show decide ((g.node i).fuse < Gd.flo g i) = r2 by rw [← Hr2.out]; simp [Gd.blowB, h0])
    refine Dr.plan_q (l := [_, _, _, _, _, _, _, _, _, _, _, _, _, _, _, _, _, _, _, _, _, _, _, _, _, _, _, _]) rfl (fun K hK => ?_)
    iterate 28 (go_big_quiet_step (fail))
    refine wpQuiet_nil (hK _ ?_); clear hK K
    refine Dr.plan_end rfl ?_
    go_wp2
    go_ret2
    exact ⟨by rw [R1.out, R2.out]; rfl, hb3⟩
  · have h0' : (i : Int) ≤ 0 := by omega
    have R1 := Lib.hid (show false = r1 by rw [← Hr1.out]; simp [Gd.blowB, h0])
    have R2 := Lib.hid (show false = r2 by rw [← Hr2.out]; simp [Gd.blowB, h0])
    refine Dr.plan_q (l := [_, _, _, _, _, _, _, _, _, _, _, _, _, _, _, _, _, _, _, _, _, _, _, _, _, _, _, _]) rfl (fun K hK => ?_)
    iterate 28 (go_big_quiet_step (fail))
    refine wpQuiet_nil (hK _ ?_); clear hK K
    refine Dr.plan_end rfl ?_
    go_wp2
    go_ret2
    cases R1.out
    cases R2.out
    exact ⟨rfl, hb3⟩

set_option maxRecDepth 100000 in
set_option maxHeartbeats 2000000 in
theorem LowR_any (g : Gd) (hf : Gd.Fit g) (A : Option Addr) (n cap i : Nat) (w : World) (hn : g.nodes.length = n) (hi : i < n) (hd : GdAt w A g) :
    Calls Try.prog 49 #[.agg #[.slice A n cap, .int .i64 g.limit], .int .i64 i] w fun e w' => e = .returned (.tuple #[.bool (Gd.lowB g (Gd.dhi g) i), .bool (Gd.lowB g (Gd.dlo g) i)]) ∧ Below w.heap.size w w' := by
  have hb0 := ext_alloc w (.cells #[.slice A n cap, .int .i64 g.limit] 37)
  have hB := Blk.new w 37 [.slice A n cap, .int .i64 g.limit]
  go_enter Try.func49, Try.ntmps49
  go_wp2_with fail
  refine (Drop_any g hf A n cap i _ hn hi (hd.ext hb0)).mono ?_
  rintro e w1 ⟨rfl, hb1⟩
  have hB1 := (hB.ext hb1).ext (ext_alloc w1 (.cells #[.int .i64 (Gd.dlo g i), .int .i64 (Gd.dhi g i)] 50))
  have hbx := Blk.new w1 50 [.int .i64 (Gd.dlo g i), .int .i64 (Gd.dhi g i)]
  have hb2 := ext_trans (ext_trans hb0 hb1) (ext_alloc w1 (.cells #[.int .i64 (Gd.dlo g i), .int .i64 (Gd.dhi g i)] 50))
  clear hB hb0 hb1
  go_upto_region 2 with fail
  change Blk (w1.alloc (.cells #[.int .i64 (Gd.dlo g i), .int .i64 (Gd.dhi g i)] 50)) w1.heap.size 50 [.int .i64 (Gd.dlo g i), .int .i64 (Gd.dhi g i)] at hbx
  generalize w1.alloc (.cells #[.int .i64 (Gd.dlo g i), .int .i64 (Gd.dhi g i)] 50) = W2 at *
  refine Dr.wp_region_plan 12 [] (.q [0, 1, 2, 3, 4, 5, 6, 7, 8, 9, 10, 11] .done) (by kernel_rfl) (by kernel_rfl) ?_
  have hB3 := hB1.ext (ext_drew W2)
  have hbx3 := hbx.ext (ext_drew W2)
  have hb3 := hb2.drew
  clear hB1 hbx hb2
  generalize World.drew _ = W3 at *
  have q0 := Dr.cell0 (hB3.cell (i := 1) rfl)
  have q2 := Dr.cell0 (hbx3.cell (i := 0) rfl)
  have q3 := Dr.cell0 (hbx3.cell (i := 1) rfl)
  refine Dr.plan_q (l := [_, _, _, _, _, _, _, _, _, _, _, _]) rfl (fun K hK => ?_)
  iterate 12 (go_big_quiet_step (fail))
  refine wpQuiet_nil (hK _ ?_); clear hK K
  refine Dr.plan_end rfl ?_
  go_wp2
  go_ret2
  exact ⟨rfl, hb3⟩

set_option maxRecDepth 100000 in
set_option maxHeartbeats 2000000 in
theorem FineR_any (g : Gd) (hf : Gd.Fit g) (A : Option Addr) (n cap : Nat) (w : World) (hn : g.nodes.length = n) (hd : GdAt w A g) :
    Calls Try.prog 28 #[.agg #[.slice A n cap, .int .i64 g.limit]] w fun e w' => e = .returned (.bool (Gd.fineB g)) ∧ Below w.heap.size w w' := by
  have hb0 := ext_alloc w (.cells #[.slice A n cap, .int .i64 g.limit] 37)
  have hB := Blk.new w 37 [.slice A n cap, .int .i64 g.limit]
  have hlen := hf.len
  have Hn := Lib.hid hn
  generalize hres : Gd.fineB g = res
  have Hres := Lib.hid hres
  clear hres
  go_enter Try.func28, Try.ntmps28
  go_upto_region 1 with fail
  change Blk (w.alloc (.cells #[.slice A n cap, .int .i64 g.limit] 37)) w.heap.size 37 [.slice A n cap, .int .i64 g.limit] at hB
  generalize w.alloc (.cells #[.slice A n cap, .int .i64 g.limit] 37) = W0 at *
  go_wp2
  go_loopw [3] (fun x wr => ∃ k : Nat, x = .int .i64 k ∧ k ≤ n ∧ Hid (∀ j, j < k → Gd.badAt g j = false) ∧ Below w.heap.size w wr ∧ Blk wr w.heap.size 37 [.slice A n cap, .int .i64 g.limit]) (fun x _ => n - (intOf x).toNat)
  case atStart => exact ⟨0, rfl, by omega, Lib.hid (fun j hj => by omega), hb0, hB⟩
  case round =>
    clear hb0 hB
    obtain ⟨k, rfl, hk, Hk, hb, hB⟩ := hrel
    have x0 : wr.cell? ⟨w.heap.size, 0, none⟩ = _ := hB.cell rfl
    have x1 : wr.cell? ⟨w.heap.size, 1, none⟩ = _ := hB.cell rfl
    by_cases hlt : k < n
    · have hlt' : (k : Int) < (n : Int) := by omega
      go_wp2_with fail
      refine (BlownR_any g hf A n cap k wr hn hlt (hd.ext hb)).mono ?_
      rintro e w1 ⟨rfl, hb1⟩
      have hb2 := ext_trans hb hb1
      have hB2 := hB.ext hb1
      have x2 : w1.cell? ⟨w.heap.size, 0, none⟩ = _ := hB2.cell rfl
      have x3 : w1.cell? ⟨w.heap.size, 1, none⟩ = _ := hB2.cell rfl
      clear hb hb1 hB x0 x1
      go_wp2_with fail
      refine (LowR_any g hf A n cap k w1 hn hlt (hd.ext hb2)).mono ?_
      rintro e w2 ⟨rfl, hb3⟩
      have hb4 := ext_trans hb2 hb3
      have hB4 := hB2.ext hb3
      have hbad : Gd.badAt g k = (Gd.blowB g (Gd.fhi g) k || Gd.lowB g (Gd.dhi g) k) := rfl
      clear hb2 hb3 hB2 x2 x3
      generalize Gd.blowB g (Gd.fhi g) k = p at *
      generalize Gd.blowB g (Gd.flo g) k = s at *
      generalize Gd.lowB g (Gd.dhi g) k = q at *
      generalize Gd.lowB g (Gd.dlo g) k = t at *
      have Hbad := Lib.hid hbad
      clear hbad
      have bad : Gd.badAt g k = true → res = false := fun hb => by
        rw [← Hres.out]
        unfold Gd.fineB
        rw [List.all_eq_false]
        exact ⟨k, by rw [Hn.out]; simpa using hlt, by rw [hb]; simp⟩
      have Bad := Lib.hid bad
      clear bad
      cases p
      · cases q
        · go_wp2
          go_roundw
          case rel => exact ⟨k + 1, by go_num, by omega, Lib.hid (fun j hj => by
            by_cases e : j = k
            · subst e; rw [Hbad.out]; rfl
            · exact Hk.out j (by omega)), hb4, hB4⟩
          case measure => simp [intOf]; omega
        · have Hr := Lib.hid (Bad.out (by rw [Hbad.out]; rfl))
          go_wp2
          go_ret
          exact ⟨ret_congr (bool_congr Hr.out.symm), hb4⟩
      · have Hr := Lib.hid (Bad.out (by rw [Hbad.out]; rfl))
        go_wp2
        go_ret
        exact ⟨ret_congr (bool_congr Hr.out.symm), hb4⟩
    · obtain rfl : k = n := by omega
      have Hr := Lib.hid (show res = true by
        rw [← Hres.out]
        unfold Gd.fineB
        rw [List.all_eq_true, Hn.out]
        intro j hj
        rw [Hk.out j (by simpa using hj)]; rfl)
      go_wp2
      go_ret
      exact ⟨ret_congr (bool_congr Hr.out.symm), hb⟩
end Go.Proofs.Ytopfhinnamhoiaa

/- Walk: wires, Grid (the grid for the program), With. -/
namespace Go.Proofs.Ytopfhinnamhoiaa
open Go.RowKit Go.Bs Go.Yd Go.Pl Go.Sort

theorem nd_one (x : Nd) : ∀ u ∈ Nd.enc x, u.oneCell' = true := by
  intro u hu
  simp only [Nd.enc, List.mem_cons, List.not_mem_nil, or_false] at hu
  rcases hu with rfl | rfl | rfl | rfl | rfl <;> rfl
theorem et41 : ElemT Try.prog 41 136 5 40 := ElemT.mk (z := .agg #[.int .i64 0, .int .i64 0, .int .i64 0, .int .i64 0, .int .i64 0]) Try.underlying41 (by kernel_rfl) rfl
theorem et35 : ElemT Try.prog 35 52 5 40 := ElemT.mk (z := .agg #[.int .i64 0, .int .i64 0, .int .i64 0, .int .i64 0, .int .i64 0]) Try.underlying35 (by kernel_rfl) rfl

theorem wires_any (A : Option Addr) (n cap : Nat) (lim : Int) (w : World) (hm : n ≤ 9223372036854775807) :
    Calls Try.prog 23 #[.agg #[.slice A n cap, .int .i64 lim]] w fun e w' => e = .returned (.bool (decide (n ≤ 33))) ∧ Below w.heap.size w w' := by
  have hb0 := ext_alloc w (.cells #[.slice A n cap, .int .i64 lim] 37)
  have hr : decide (n ≤ 33) = decide ((n : Int) ≤ 33) := by simp; omega
  rw [hr]
  clear hr
  go_enter Try.func23, Try.ntmps23
  go_wp2
  go_ret
  exact ⟨rfl, hb0⟩

/-- what the walk of Grid keeps -/
structure GrI (w W : World) (A : Option Addr) (n cap : Nat) (lim : Int) (v : Value) (l : List Nd) : Prop where
  bl : Below w.heap.size w W
  sz : w.heap.size + 3 ≤ W.heap.size
  b0 : Blk W w.heap.size 37 [.slice A n cap, .int .i64 lim]
  b1 : Blk W (w.heap.size + 1) 43 [.slice none 0 0, .int .i64 0]
  b2 : Blk W (w.heap.size + 2) 43 [v, .int .i64 lim]
  own : OwnL W (w.heap.size + 3) 136 5 Nd.enc v l
section
variable {w W W' : World} {A : Option Addr} {n cap : Nat} {lim : Int} {v : Value} {l : List Nd}
theorem GrI.ext (h : GrI w W A n cap lim v l) (hb : Below W.heap.size W W') : GrI w W' A n cap lim v l :=
  ⟨ext_trans h.bl hb, Nat.le_trans h.sz hb.size, h.b0.ext hb, h.b1.ext hb, h.b2.ext hb, h.own.ext hb⟩
theorem GrI.set (h : GrI w W A n cap lim v l) {u : Value} {l2 : List Nd} (hb : Below (w.heap.size + 3) W W') (ho : OwnL W' (w.heap.size + 3) 136 5 Nd.enc u l2) : GrI w (W'.setCell ⟨w.heap.size + 2, 0, none⟩ u) A n cap lim u l2 :=
  ⟨(h.bl.trans (hb.mono (by omega))).setCell (by simp) _, by have := h.sz; have := hb.size; simp; omega, (h.b0.under hb (by omega)).other (by simp) _, (h.b1.under hb (by omega)).other (by simp) _, (h.b2.under hb (by omega)).set 0 _, ho.setCell (by simp) _⟩
end

set_option maxRecDepth 100000 in
set_option maxHeartbeats 4000000 in
theorem Grid_any (g : Gd) (A : Option Addr) (n cap : Nat) (w : World) (hn : g.nodes.length = n) (hm : n ≤ 1000) (hd : GdAt w A g) :
    Calls Try.prog 25 #[.agg #[.slice A n cap, .int .i64 g.limit]] w fun e w' => ∃ v, e = .returned (.agg #[v, .int .i64 g.limit]) ∧ FreshL w w' 5 Nd.enc v g.nodes ∧ Below w.heap.size w w' := by
  have Hn := Lib.hid hn
  have hS : GrI w (((w.alloc (.cells #[.slice A n cap, .int .i64 g.limit] 37)).alloc (.cells #[.slice none 0 0, .int .i64 0] 43)).alloc (.cells #[.slice none 0 0, .int .i64 g.limit] 43)) A n cap g.limit (.slice none 0 0) [] := by
    refine ⟨((ext_alloc w _).alloc (by simp) _).alloc (by simp; omega) _, by simp, ?_, ?_, ?_, OwnL.nil⟩
    · exact ((Blk.new w 37 [.slice A n cap, .int .i64 g.limit]).alloc _).alloc _
    · have := (Blk.new (w.alloc (.cells #[.slice A n cap, .int .i64 g.limit] 37)) 43 [.slice none 0 0, .int .i64 0]).alloc (.cells #[.slice none 0 0, .int .i64 g.limit] 43)
      simpa using this
    · have := Blk.new ((w.alloc (.cells #[.slice A n cap, .int .i64 g.limit] 37)).alloc (.cells #[.slice none 0 0, .int .i64 0] 43)) 43 [.slice none 0 0, .int .i64 g.limit]
      simpa using this
  go_enter Try.func25, Try.ntmps25
  go_upto_region 2 with fail
  generalize ((w.alloc (.cells #[.slice A n cap, .int .i64 g.limit] 37)).alloc (.cells #[.slice none 0 0, .int .i64 0] 43)).alloc (.cells #[.slice none 0 0, .int .i64 g.limit] 43) = W0 at *
  go_wp2
  go_loopw [4] (fun x wr => ∃ (k : Nat) (v : Value), x = .int .i64 k ∧ k ≤ n ∧ GrI w wr A n cap g.limit v (g.nodes.take k)) (fun x _ => n - (intOf x).toNat)
  case atStart => exact ⟨0, _, rfl, by omega, by simpa using hS⟩
  case round =>
    clear hS
    obtain ⟨k, v, rfl, hk, hS⟩ := hrel
    have x0 : wr.cell? ⟨w.heap.size, 0, none⟩ = _ := hS.b0.cell rfl
    by_cases hlt : k < n
    · have hlt' : (k : Int) < (n : Int) := by omega
      have hk0 : (0 : Int) ≤ (k : Int) := by omega
      obtain ⟨b, off, rfl, -, c0, c1, c2, c3, c4⟩ := (hd.ext hS.bl).node (k := k) (by omega)
      have hS1 := hS.ext (ext_alloc wr (.cells #[.int .i64 (g.node k).parent, .int .i64 (g.node k).load.lo, .int .i64 (g.node k).load.hi, .int .i64 (g.node k).fuse, .int .i64 (g.node k).sag] 52))
      have hbx := Blk.new wr 52 (Nd.enc (g.node k))
      have hsz := hS.sz
      clear hS
      go_upto_region 6 with fail
      change Blk (wr.alloc (.cells #[.int .i64 (g.node k).parent, .int .i64 (g.node k).load.lo, .int .i64 (g.node k).load.hi, .int .i64 (g.node k).fuse, .int .i64 (g.node k).sag] 52)) wr.heap.size 52 [.int .i64 (g.node k).parent, .int .i64 (g.node k).load.lo, .int .i64 (g.node k).load.hi, .int .i64 (g.node k).fuse, .int .i64 (g.node k).sag] at hbx
      have hsz1 : (wr.alloc (.cells #[.int .i64 (g.node k).parent, .int .i64 (g.node k).load.lo, .int .i64 (g.node k).load.hi, .int .i64 (g.node k).fuse, .int .i64 (g.node k).sag] 52)).heap.size = wr.heap.size + 1 := by simp
      have Hsz1 := Lib.hid hsz1
      clear hsz1 c0 c1 c2 c3 c4 x0
      generalize wr.alloc (.cells #[.int .i64 (g.node k).parent, .int .i64 (g.node k).load.lo, .int .i64 (g.node k).load.hi, .int .i64 (g.node k).fuse, .int .i64 (g.node k).sag] 52) = W1 at *
      have d0 : W1.cell? ⟨wr.heap.size, 0, none⟩ = _ := hbx.cell rfl
      have d1 : W1.cell? ⟨wr.heap.size, 1, none⟩ = _ := hbx.cell rfl
      have d2 : W1.cell? ⟨wr.heap.size, 2, none⟩ = _ := hbx.cell rfl
      have d3 : W1.cell? ⟨wr.heap.size, 3, none⟩ = _ := hbx.cell rfl
      have d4 : W1.cell? ⟨wr.heap.size, 4, none⟩ = _ := hbx.cell rfl
      have s0 : W1.cell? ⟨w.heap.size + 2, 0, none⟩ = _ := hS1.b2.cell rfl
      have hS2 := hS1.ext (ext_alloc W1 (.cells (Nd.enc (g.node k)).toArray 136))
      have hnew := Blk.new W1 136 (Nd.enc (g.node k))
      have hlk : (g.nodes.take k).length = k := by simp; omega
      have hgk : g.nodes.take (k + 1) = g.nodes.take k ++ [g.node k] := by
        rw [List.take_succ_eq_append_getElem (by omega), Gd.node_get (by omega)]
      go_wp2_with (at_builtin; refine app1 Nd.enc 41 136 5 40 et41 (by decide) (by decide) (fun _ => rfl) nd_one rfl _ _ rfl (w.heap.size + 3) v (g.nodes.take k) rfl hS2.own W1.heap.size rfl (g.node k) (fun j u hj => hnew.cell hj) (by omega) (by have := Hsz1.out; simp; omega) ?_; intro g' cap' w' hown hb3 _ _; have f2 : w'.frozen? ⟨w.heap.size + 1 + 1, 0, none⟩ = false := (hS2.b2.under hb3 (by omega)).free 0; have x2 : w'.cell? ⟨w.heap.size + 1 + 1, 0, none⟩ = some v := (hS2.b2.under hb3 (by omega)).cell rfl)
      have hS3 := hS2.set (u := .slice (some ⟨g', 0, none⟩) ((g.nodes.take k).length + 1) cap') hb3 hown
      rw [← hgk, hlk] at hS3
      go_roundw
      case rel => exact ⟨k + 1, _, by go_num, by omega, hS3⟩
      case measure => simp [intOf]; omega
    · obtain rfl : k = n := by omega
      obtain ⟨A', c', rfl, -, -, -⟩ := hS.own.cells (fun _ => rfl)
      rw [List.take_of_length_le (by rw [Hn.out]; omega), Hn.out] at hS
      have x0 : wr.cell? ⟨w.heap.size + 1 + 1, 0, none⟩ = _ := hS.b2.cell rfl
      have x1 : wr.cell? ⟨w.heap.size + 1 + 1, 1, none⟩ = _ := hS.b2.cell rfl
      have y0 : wr.cell? ⟨w.heap.size + 1, 0, none⟩ = _ := hS.b1.cell rfl
      have y1 : wr.cell? ⟨w.heap.size + 1, 1, none⟩ = _ := hS.b1.cell rfl
      have f0 := hS.b1.free 0
      have f1 := hS.b1.free 1
      go_wp2
      have hR := (hS.b1.set 0 (.slice A' k c')).set 1 (.int .i64 g.limit)
      have hO := (hS.own.setCell (p := ⟨w.heap.size + 1, 0, none⟩) (by simp) (.slice A' k c')).setCell (p := ⟨w.heap.size + 1, 1, none⟩) (by simp) (.int .i64 g.limit)
      have hb := (hS.bl.setCell (p := ⟨w.heap.size + 1, 0, none⟩) (by simp) (.slice A' k c')).setCell (p := ⟨w.heap.size + 1, 1, none⟩) (by simp) (.int .i64 g.limit)
      clear x0 x1 y0 y1 f0 f1 hS
      generalize (wr.setCell ⟨w.heap.size + 1, 0, none⟩ (.slice A' k c')).setCell ⟨w.heap.size + 1, 1, none⟩ (.int .i64 g.limit) = W at *
      have s0 : W.cell? ⟨w.heap.size + 1, 0, none⟩ = _ := hR.cell rfl
      have s1 : W.cell? ⟨w.heap.size + 1, 1, none⟩ = _ := hR.cell rfl
      refine bodyPost_ret (v := .agg #[.slice A' k c', .int .i64 g.limit]) (by simp [results, Try.results25, go_sem, s0, s1]) rfl ?_
      exact ⟨_, rfl, FreshL.of_own hO (fun _ => rfl) (by omega), hb⟩
end Go.Proofs.Ytopfhinnamhoiaa

/- Walk: With, and the reference's Spare. -/
namespace Go.Proofs.Ytopfhinnamhoiaa
open Go.RowKit Go.Bs Go.Yd Go.Pl Go.Sort

theorem nd_set {w : World} {g : Nat} {l : List Nd} {x : Nat} {p a b f s a' b' : Int} (hc : Cells w (some ⟨g, 0, none⟩) 5 Nd.enc l) (hx : l[x]? = some ⟨p, ⟨a, b⟩, f, s⟩) :
    Cells ((w.setCell ⟨g, x * 5 + 1, none⟩ (.int .i64 a')).setCell ⟨g, x * 5 + 2, none⟩ (.int .i64 b')) (some ⟨g, 0, none⟩) 5 Nd.enc (l.set x ⟨p, ⟨a', b'⟩, f, s⟩) := by
  intro i y hi
  refine ⟨g, 0, rfl, fun j u hj => ?_⟩
  obtain ⟨_, _, e, hcx⟩ := hc x _ hx
  cases e
  have k1 := hcx 1 _ rfl
  have k2 := hcx 2 _ rfl
  simp only [Nat.zero_add] at k1 k2 ⊢
  have hj5 : j < 5 := by have := (List.getElem?_eq_some_iff.1 hj).1; simpa [Nd.enc] using this
  by_cases e : i = x
  · subst e
    rw [List.getElem?_set_self (List.getElem?_eq_some_iff.1 hx).1] at hi
    cases hi
    have f1 : (w.setCell ⟨g, i * 5 + 1, none⟩ (.int .i64 a')).cell? ⟨g, i * 5 + 2, none⟩ = some (.int .i64 b) := by
      rw [World.cell?_setCell_other _ _ _ _ (by intro e; injection e; omega)]; exact k2
    by_cases e2 : j = 2
    · subst e2
      rw [World.cell?_setCell_same _ _ _ f1]
      simpa [Nd.enc] using hj
    · rw [World.cell?_setCell_other _ _ _ _ (by intro e; injection e; omega)]
      by_cases e1 : j = 1
      · subst e1
        rw [World.cell?_setCell_same _ _ _ k1]
        simpa [Nd.enc] using hj
      · rw [World.cell?_setCell_other _ _ _ _ (by intro e; injection e; omega)]
        have := hcx j u (by
          rcases j with _ | _ | _ | _ | _ | j
          · exact hj
          · omega
          · omega
          · exact hj
          · exact hj
          · omega)
        simpa using this
  · rw [List.getElem?_set_ne (Ne.symm e)] at hi
    obtain ⟨_, _, e', hcy⟩ := hc i y hi
    cases e'
    rw [World.cell?_setCell_other _ _ _ _ (by intro e; injection e; omega), World.cell?_setCell_other _ _ _ _ (by intro e; injection e; omega)]
    have := hcy j u hj
    simpa using this

theorem Blk.far {W W' : World} {B T : Nat} {cs : List Value} {row : Option Nat} (h : Blk W B T cs) (hg : W.grownBy W' row) (hne : some B ≠ row) : Blk W' B T cs := (hg.block B h.lt hne).trans h
/-- what the walk of With keeps -/
structure WiI (w W : World) (A : Option Addr) (n cap : Nat) (lim : Int) (Bt G c : Nat) (l : List Nd) : Prop where
  bl : Below w.heap.size w W
  b1 : Blk W (w.heap.size + 1) 37 [.slice none 0 0, .int .i64 0]
  bt : Blk W Bt 37 [.slice (some ⟨G, 0, none⟩) n c, .int .i64 lim]
  C : Cells W (some ⟨G, 0, none⟩) 5 Nd.enc l
  fr : ∀ i, W.frozen? ⟨G, i, none⟩ = false
  cap : n ≤ c ∧ c ≤ maxLen
  ne : Bt ≠ G
  lt : w.heap.size + 1 < Bt ∧ w.heap.size + 1 < G ∧ G < W.heap.size

set_option maxRecDepth 100000 in
set_option maxHeartbeats 4000000 in
theorem With_any (g : Gd) (A : Option Addr) (n cap x : Nat) (m : Int) (w : World) (hok : g.ok) (hn : g.nodes.length = n) (hx : x < n) (hm : 0 ≤ m ∧ m ≤ 1000000) (hd : GdAt w A g) :
    Calls Try.prog 31 #[.agg #[.slice A n cap, .int .i64 g.limit], .int .i64 x, .int .i64 m] w fun e w' => ∃ v, e = .returned (.agg #[v, .int .i64 g.limit]) ∧ FreshL w w' 5 Nd.enc v (Gd.more g x m).nodes ∧ Below w.heap.size w w' := by
  have hlen := hok.len
  have Hn := Lib.hid hn
  have hl := (hok.nodes x (by omega)).load
  have hxn : (x : Int) < (n : Int) := by omega
  have hx0 : (0 : Int) ≤ (x : Int) := by omega
  have hb0 : Below w.heap.size w ((w.alloc (.cells #[.slice A n cap, .int .i64 g.limit] 37)).alloc (.cells #[.slice none 0 0, .int .i64 0] 37)) := (ext_alloc w _).alloc (by simp) _
  have hB0 : Blk ((w.alloc (.cells #[.slice A n cap, .int .i64 g.limit] 37)).alloc (.cells #[.slice none 0 0, .int .i64 0] 37)) w.heap.size 37 [.slice A n cap, .int .i64 g.limit] := (Blk.new w 37 [.slice A n cap, .int .i64 g.limit]).alloc _
  have hR0 : Blk ((w.alloc (.cells #[.slice A n cap, .int .i64 g.limit] 37)).alloc (.cells #[.slice none 0 0, .int .i64 0] 37)) (w.heap.size + 1) 37 [.slice none 0 0, .int .i64 0] := by
    have := Blk.new (w.alloc (.cells #[.slice A n cap, .int .i64 g.limit] 37)) 37 [.slice none 0 0, .int .i64 0]
    simpa using this
  have hs0 : ((w.alloc (.cells #[.slice A n cap, .int .i64 g.limit] 37)).alloc (.cells #[.slice none 0 0, .int .i64 0] 37)).heap.size = w.heap.size + 2 := by simp
  go_enter Try.func31, Try.ntmps31
  go_upto_region 1 with fail
  have Hs0 := Lib.hid hs0
  clear hs0
  generalize (w.alloc (.cells #[.slice A n cap, .int .i64 g.limit] 37)).alloc (.cells #[.slice none 0 0, .int .i64 0] 37) = W0 at *
  go_cut [7] (fun z W => ∃ Bt G c, z = .pointer (some ⟨Bt, 0, none⟩) ∧ WiI w W A n cap g.limit Bt G c g.nodes)
  case first =>
    refine Dr.wp_region_plan 8 [w.heap.size + 2, w.heap.size + 3] (.q [1, 2, 4, 5] (.e2 0 (.e2 3 (.q [6] (.e1 7 .done)) 7 (.e1 3 (.q [6] .done))) 7 (.e1 0 (.e1 3 (.q [6] .done))))) (by kernel_rfl) (by kernel_rfl) ?_
    have hb1 := hb0.drew
    have hB1 := hB0.ext (ext_drew W0)
    have hR1 := hR0.ext (ext_drew W0)
    have hs1 : W0.drew.heap.size = w.heap.size + 2 := Hs0.out
    have HsW := Lib.hid hs1
    clear hs1 hb0 hB0 hR0 Hs0
    generalize World.drew _ = W at *
    have q0 := Dr.cls_cell (M := [w.heap.size + 2, w.heap.size + 3]) (hB1.cell (i := 0) rfl) (by simp)
    have q1 := Dr.cls_cell (M := [w.heap.size + 2, w.heap.size + 3]) (hB1.cell (i := 1) rfl) (by simp)
    refine Dr.plan_q (l := [_, _, _, _]) rfl (fun K hK => ?_)
    iterate 4 (go_big_quiet_step (fail))
    refine wpQuiet_nil (hK _ ?_); clear hK K
    refine Dr.plan_e2 ?_ ?_
    · refine Dr.plan_e rfl (by rfl) (fun K hK => ?_)
      go_wp2_with fail
      refine hK _ _ (.of (ext_alloc _ _)) ?_; clear hK K
      have hWa := Lib.hid (show (W.alloc (.cells #[] 52)).heap.size = w.heap.size + 3 by have := HsW.out; simp; omega)
      have hba := ext_trans hb1 (ext_alloc W (.cells #[] 52))
      have hRa := hR1.alloc (.cells #[] 52)
      have ho := own_new (α := Nd) W 52 5 Nd.enc
      refine Dr.plan_e2 ?_ ?_
      · refine Dr.plan_e rfl (by rfl) (fun K hK => ?_)
        refine wp_app_rows Nd.enc 35 52 5 40 et35 (by decide) (by decide) (fun _ => rfl) nd_one _ _ rfl W.heap.size (.slice (some ⟨W.heap.size, 0, none⟩) 0 0) [] rfl ho A n cap g.nodes hn rfl (hd.ext hba) (by simp; omega) (by simp) ?_
        intro v' w' hown hbl hgr hat
        refine hK _ _ ⟨hgr.os, hgr.tape, hgr.output, hgr.size, fun k hk hm => hgr.block k hk (fun e => hm (by cases e; rw [HsW.out]; simp))⟩ ?_; clear hK K
        rw [List.nil_append] at hown
        obtain ⟨G, c, hv', hG1, hG2, hc1, hc2, hC, hF⟩ := hown.blk (fun _ => rfl) (by omega)
        rw [hn] at hv' hc1
        subst hv'
        have hszw := hgr.size
        rw [hWa.out] at hszw
        have hbw := hba.trans (hbl.mono (by rw [HsW.out]; omega))
        have hRw := hRa.under hbl (by rw [HsW.out]; omega)
        rw [HsW.out] at hG1
        clear hown hgr hbl hat hba hRa ho q0 q1 hb1 hB1 hR1
        go_frame
        refine Dr.plan_q (l := [_]) rfl (fun K hK => ?_)
        iterate 1 (go_big_quiet_step (fail))
        refine wpQuiet_nil (hK _ ?_); clear hK K
        refine Dr.plan_e rfl (by rfl) (fun K hK => ?_)
        go_wp2_with fail
        refine hK _ _ (.of (ext_alloc _ _)) ?_; clear hK K
        refine Dr.plan_done (tl := [_]) rfl ?_
        go_wp2
        go_meet
        case rel =>
          have hbn := Blk.new w' 37 [.slice (some ⟨G, 0, none⟩) n c, .int .i64 g.limit]
          exact ⟨w'.heap.size, G, c, rfl, ext_trans hbw (ext_alloc _ _), hRw.alloc _, hbn, hC.alloc _, fun i => by rw [(ext_alloc w' _).frozen (p := ⟨G, i, none⟩) hG2]; exact hF i, ⟨hc1, hc2⟩, by omega, by omega, by omega, by simp; omega⟩
      · refine Dr.plan_e rfl (by rfl) (fun K hK => ?_)
        go_wp2_with fail
        refine hK _ _ (.of (ext_alloc _ _)) ?_; clear hK K
        have hWb := Lib.hid (show ((W.alloc (.cells #[] 52)).alloc (.cells #[.slice none 0 0, .int .i64 0] 37)).heap.size = w.heap.size + 4 by have := HsW.out; simp; omega)
        have hbb := ext_trans hba (ext_alloc (W.alloc (.cells #[] 52)) (.cells #[.slice none 0 0, .int .i64 0] 37))
        have hRb := hRa.alloc (.cells #[.slice none 0 0, .int .i64 0] 37)
        have hBt := Blk.new (W.alloc (.cells #[] 52)) 37 [.slice none 0 0, .int .i64 0]
        rw [hWa.out] at hBt
        refine Dr.plan_e rfl (by rfl) (fun K hK => ?_)
        refine wp_app_rows Nd.enc 35 52 5 40 et35 (by decide) (by decide) (fun _ => rfl) nd_one _ _ rfl W.heap.size (.slice (some ⟨W.heap.size, 0, none⟩) 0 0) [] rfl (ho.alloc _) A n cap g.nodes hn rfl (hd.ext hbb) (by simp; omega) (by simp; omega) ?_
        intro v' w' hown hbl hgr hat
        refine hK _ _ ⟨hgr.os, hgr.tape, hgr.output, hgr.size, fun k hk hm => hgr.block k hk (fun e => hm (by cases e; rw [HsW.out]; simp))⟩ ?_; clear hK K
        rw [List.nil_append] at hown
        obtain ⟨G, c, hv', hG1, hG2, hc1, hc2, hC, hF⟩ := hown.blk (fun _ => rfl) (by omega)
        rw [hn] at hv' hc1
        subst hv'
        have hszw := hgr.size
        rw [hWb.out] at hszw
        have hbw := hbb.trans (hbl.mono (by rw [HsW.out]; omega))
        have hRw := hRb.under hbl (by rw [HsW.out]; omega)
        have hBw := Blk.far (B := w.heap.size + 3) hBt hgr (by rw [HsW.out]; simp [Value.ownBlock])
        rw [HsW.out] at hG1
        have hGne : G ≠ w.heap.size + 3 := by
          rintro rfl
          rcases hat with ⟨h1, h2⟩ | ⟨g', cc, h1, h2⟩
          · simp at h1; omega
          · simp at h1
            obtain ⟨h1, -⟩ := h1
            rcases h2 with h2 | h2
            · simp [Value.ownBlock] at h2; have := HsW.out; omega
            · rw [hWb.out] at h2; omega
        clear hown hgr hbl hat hba hRa hbb hRb hBt ho q0 q1 hb1 hB1 hR1
        go_frame
        have hBs : W.heap.size + 1 = w.heap.size + 3 := by have := HsW.out; omega
        have HBs := Lib.hid hBs
        have x0 : w'.cell? ⟨W.heap.size + 1, 0, none⟩ = some (.slice none 0 0) := by rw [hBs]; exact hBw.cell rfl
        have x1 : w'.cell? ⟨W.heap.size + 1, 1, none⟩ = some (.int .i64 0) := by rw [hBs]; exact hBw.cell rfl
        have f0 : w'.frozen? ⟨W.heap.size + 1, 0, none⟩ = false := by rw [hBs]; exact hBw.free 0
        have f1 : w'.frozen? ⟨W.heap.size + 1, 1, none⟩ = false := by rw [hBs]; exact hBw.free 1
        clear hBs
        refine Dr.plan_q (l := [_]) rfl (fun K hK => ?_)
        iterate 1 (go_big_quiet_step (fail))
        refine wpQuiet_nil (hK _ ?_); clear hK K
        refine Dr.plan_done (tl := [_]) rfl ?_
        go_wp2
        rw [HBs.out]
        go_meet
        case rel =>
          refine ⟨w.heap.size + 3, G, c, rfl, (hbw.setCell (by simp) _).setCell (by simp) _, (hRw.other (by simp) _).other (by simp) _, (hBw.set 0 _).set 1 _, (hC.setCell (by simp; omega) _).setCell (by simp; omega) _, fun i => ?_, ⟨hc1, hc2⟩, by omega, by omega, by omega, by simp; omega⟩
          rw [World.frozen?_setCell, World.frozen?_setCell]
          exact hF i
    · refine Dr.plan_e rfl (by rfl) (fun K hK => ?_)
      go_wp2_with fail
      refine hK _ _ (.of (ext_alloc _ _)) ?_; clear hK K
      refine Dr.plan_e rfl (by rfl) (fun K hK => ?_)
      go_wp2_with fail
      refine hK _ _ (.of (ext_alloc _ _)) ?_; clear hK K
      have hba := ext_trans hb1 (ext_alloc W (.cells #[.slice none 0 0, .int .i64 0] 37))
      have hRa := hR1.alloc (.cells #[.slice none 0 0, .int .i64 0] 37)
      have hBt := Blk.new W 37 [.slice none 0 0, .int .i64 0]
      have hWa := Lib.hid (show (W.alloc (.cells #[.slice none 0 0, .int .i64 0] 37)).heap.size = w.heap.size + 3 by have := HsW.out; simp; omega)
      rw [HsW.out] at hBt
      change Blk (W.alloc (.cells #[.slice none 0 0, .int .i64 0] 37)) _ _ _ at hBt
      clear hb1 hR1 hB1 q0 q1
      have ho := own_new (α := Nd) (W.alloc (.cells #[.slice none 0 0, .int .i64 0] 37)) 52 5 Nd.enc
      rw [show (W.alloc (.cells #[.slice none 0 0, .int .i64 0] 37)).heap.size = W.heap.size + 1 by simp] at ho
      have hbb := ext_trans hba (ext_alloc (W.alloc (.cells #[.slice none 0 0, .int .i64 0] 37)) (.cells #[] 52))
      refine Dr.plan_e rfl (by rfl) (fun K hK => ?_)
      refine wp_app_rows Nd.enc 35 52 5 40 et35 (by decide) (by decide) (fun _ => rfl) nd_one _ _ rfl (W.heap.size + 1) (.slice (some ⟨W.heap.size + 1, 0, none⟩) 0 0) [] rfl ho A n cap g.nodes hn rfl (hd.ext hbb) (by simp; omega) (by simp) ?_
      intro v' w' hown hbl hgr hat
      rw [show W.heap.size + 1 = w.heap.size + 3 by have := HsW.out; omega] at hown hbl hgr
      refine hK _ _ ⟨hgr.os, hgr.tape, hgr.output, hgr.size, fun k hk hm => hgr.block k hk (fun e => hm (by cases e; simp))⟩ ?_; clear hK K
      rw [List.nil_append] at hown
      obtain ⟨G, c, hv', hG1, hG2, hc1, hc2, hC, hF⟩ := hown.blk (fun _ => rfl) (by omega)
      rw [hn] at hv' hc1
      subst hv'
      have hszw := hgr.size
      have hbw := hbb.trans (hbl.mono (by omega))
      have hRw := (hRa.alloc _).under hbl (by omega)
      have hBw := (hBt.alloc _).under hbl (by omega)
      clear hown hgr hbl hat hba hRa hbb hBt ho
      go_frame
      have hBs : W.heap.size = w.heap.size + 2 := by have := HsW.out; omega
      have HBs := Lib.hid hBs
      have x0 : w'.cell? ⟨W.heap.size, 0, none⟩ = some (.slice none 0 0) := by rw [hBs]; exact hBw.cell rfl
      have x1 : w'.cell? ⟨W.heap.size, 1, none⟩ = some (.int .i64 0) := by rw [hBs]; exact hBw.cell rfl
      have f0 : w'.frozen? ⟨W.heap.size, 0, none⟩ = false := by rw [hBs]; exact hBw.free 0
      have f1 : w'.frozen? ⟨W.heap.size, 1, none⟩ = false := by rw [hBs]; exact hBw.free 1
      clear hBs
      refine Dr.plan_q (l := [_]) rfl (fun K hK => ?_)
      iterate 1 (go_big_quiet_step (fail))
      refine wpQuiet_nil (hK _ ?_); clear hK K
      refine Dr.plan_done (tl := [_]) rfl ?_
      go_wp2
      rw [HBs.out]
      go_meet
      case rel =>
        refine ⟨w.heap.size + 2, G, c, rfl, (hbw.setCell (by simp) _).setCell (by simp) _, (hRw.other (by simp) _).other (by simp) _, (hBw.set 0 _).set 1 _, (hC.setCell (by simp; omega) _).setCell (by simp; omega) _, fun i => ?_, ⟨hc1, hc2⟩, by omega, by omega, by omega, by simp; omega⟩
        rw [World.frozen?_setCell, World.frozen?_setCell]
        exact hF i
  case rest =>
    obtain ⟨Bt, G, c, rfl, hS⟩ := hcut
    clear hb0 hB0 hR0 Hs0
    obtain ⟨b, off, e, hcx⟩ := hS.C.at (k := x) (by omega)
    cases e
    rw [Gd.node_get (by omega)] at hcx
    have c1 := hcx 1 _ rfl
    have c2 := hcx 2 _ rfl
    simp only [Nat.zero_add] at c1 c2
    have x0 : wc.cell? ⟨Bt, 0, none⟩ = _ := hS.bt.cell rfl
    have hbx := Blk.new wc 50 [.int .i64 (g.node x).load.lo, .int .i64 (g.node x).load.hi]
    go_upto_region 3 with fail
    have hb4 := hS.bl.trans ((ext_alloc wc (.cells #[.int .i64 (g.node x).load.lo, .int .i64 (g.node x).load.hi] 50)).mono hS.bl.size)
    have hR4 := hS.b1.alloc (.cells #[.int .i64 (g.node x).load.lo, .int .i64 (g.node x).load.hi] 50)
    have hT4 := hS.bt.alloc (.cells #[.int .i64 (g.node x).load.lo, .int .i64 (g.node x).load.hi] 50)
    have hC4 := hS.C.alloc (.cells #[.int .i64 (g.node x).load.lo, .int .i64 (g.node x).load.hi] 50)
    have hF4 : ∀ i, (wc.alloc (.cells #[.int .i64 (g.node x).load.lo, .int .i64 (g.node x).load.hi] 50)).frozen? ⟨G, i, none⟩ = false := fun i => by rw [(ext_alloc wc _).frozen (p := ⟨G, i, none⟩) hS.lt.2.2]; exact hS.fr i
    have k1 := cell_ext c1 (ext_alloc wc (.cells #[.int .i64 (g.node x).load.lo, .int .i64 (g.node x).load.hi] 50))
    have k2 := cell_ext c2 (ext_alloc wc (.cells #[.int .i64 (g.node x).load.lo, .int .i64 (g.node x).load.hi] 50))
    have hcap := hS.cap
    have hne := hS.ne
    have hlt := hS.lt
    change Blk (wc.alloc (.cells #[.int .i64 (g.node x).load.lo, .int .i64 (g.node x).load.hi] 50)) _ _ _ at hbx
    have hsz4 : (wc.alloc (.cells #[.int .i64 (g.node x).load.lo, .int .i64 (g.node x).load.hi] 50)).heap.size = wc.heap.size + 1 := by simp
    have Hsz4 := Lib.hid hsz4
    clear hS hcx c1 c2 x0 hsz4
    generalize wc.alloc (.cells #[.int .i64 (g.node x).load.lo, .int .i64 (g.node x).load.hi] 50) = W4 at *
    have x0 : W4.cell? ⟨Bt, 0, none⟩ = _ := hT4.cell rfl
    have y0 := hbx.cell (i := 0) rfl
    have y1 := hbx.cell (i := 1) rfl
    have z1 := hF4 (x * 5 + 1)
    have z2 := hF4 (x * 5 + 1 + 1)
    have hgx : g.node x = ⟨(g.node x).parent, ⟨(g.node x).load.lo, (g.node x).load.hi⟩, (g.node x).fuse, (g.node x).sag⟩ := rfl
    have hget : g.nodes[x]? = some ⟨(g.node x).parent, ⟨(g.node x).load.lo, (g.node x).load.hi⟩, (g.node x).fuse, (g.node x).sag⟩ := by
      rw [List.getElem?_eq_getElem (by omega), Gd.node_get (by omega)]
    have hmore : (Gd.more g x m).nodes = g.nodes.set x ⟨(g.node x).parent, ⟨(g.node x).load.lo + m, (g.node x).load.hi + m⟩, (g.node x).fuse, (g.node x).sag⟩ := rfl
    have Hmore := Lib.hid hmore
    have hC5 := nd_set (a' := (g.node x).load.lo + m) (b' := (g.node x).load.hi + m) hC4 hget
    have hb5 := (hb4.setCell (p := ⟨G, x * 5 + 1, none⟩) (by simp; omega) (.int .i64 ((g.node x).load.lo + m))).setCell (p := ⟨G, x * 5 + 2, none⟩) (by simp; omega) (.int .i64 ((g.node x).load.hi + m))
    have hR5 := (hR4.other (p := ⟨G, x * 5 + 1, none⟩) (by simp; omega) (.int .i64 ((g.node x).load.lo + m))).other (p := ⟨G, x * 5 + 2, none⟩) (by simp; omega) (.int .i64 ((g.node x).load.hi + m))
    have hT5 := (hT4.other (p := ⟨G, x * 5 + 1, none⟩) (by simp; omega) (.int .i64 ((g.node x).load.lo + m))).other (p := ⟨G, x * 5 + 2, none⟩) (by simp; omega) (.int .i64 ((g.node x).load.hi + m))
    have hs5 : ((W4.setCell ⟨G, x * 5 + 1, none⟩ (.int .i64 ((g.node x).load.lo + m))).setCell ⟨G, x * 5 + 2, none⟩ (.int .i64 ((g.node x).load.hi + m))).heap.size = W4.heap.size := by simp
    rw [← hmore] at hC5
    clear hmore hgx hget hC4 hb4 hR4 hT4 hF4
    go_upto_region 4 with fail
    generalize (W4.setCell ⟨G, x * 5 + 1, none⟩ (.int .i64 ((g.node x).load.lo + m))).setCell ⟨G, x * 5 + 2, none⟩ (.int .i64 ((g.node x).load.hi + m)) = W5 at *
    have Hs5 := Lib.hid hs5
    clear x0 y0 y1 z1 z2 k1 k2 hs5
    have x0 : W5.cell? ⟨Bt, 0, none⟩ = _ := hT5.cell rfl
    have x1 : W5.cell? ⟨Bt, 1, none⟩ = _ := hT5.cell rfl
    have y0 : W5.cell? ⟨w.heap.size + 1, 0, none⟩ = _ := hR5.cell rfl
    have y1 : W5.cell? ⟨w.heap.size + 1, 1, none⟩ = _ := hR5.cell rfl
    have f0 := hR5.free 0
    have f1 := hR5.free 1
    go_wp2
    have hR6 := (hR5.set 0 (.slice (some ⟨G, 0, none⟩) n c)).set 1 (.int .i64 g.limit)
    have hb6 := (hb5.setCell (p := ⟨w.heap.size + 1, 0, none⟩) (by simp) (.slice (some ⟨G, 0, none⟩) n c)).setCell (p := ⟨w.heap.size + 1, 1, none⟩) (by simp) (.int .i64 g.limit)
    have hC6 := (hC5.setCell (p := ⟨w.heap.size + 1, 0, none⟩) (by simp; omega) (.slice (some ⟨G, 0, none⟩) n c)).setCell (p := ⟨w.heap.size + 1, 1, none⟩) (by simp; omega) (.int .i64 g.limit)
    have hs6 : ((W5.setCell ⟨w.heap.size + 1, 0, none⟩ (.slice (some ⟨G, 0, none⟩) n c)).setCell ⟨w.heap.size + 1, 1, none⟩ (.int .i64 g.limit)).heap.size = W5.heap.size := by simp
    clear x0 x1 y0 y1 f0 f1
    generalize (W5.setCell ⟨w.heap.size + 1, 0, none⟩ (.slice (some ⟨G, 0, none⟩) n c)).setCell ⟨w.heap.size + 1, 1, none⟩ (.int .i64 g.limit) = W6 at *
    have Hs6 := Lib.hid hs6
    clear hs6
    have s0 : W6.cell? ⟨w.heap.size + 1, 0, none⟩ = _ := hR6.cell rfl
    have s1 : W6.cell? ⟨w.heap.size + 1, 1, none⟩ = _ := hR6.cell rfl
    refine bodyPost_ret (v := .agg #[.slice (some ⟨G, 0, none⟩) n c, .int .i64 g.limit]) (by simp [results, Try.results31, go_sem, s0, s1]) rfl ?_
    have hl2 : (Gd.more g x m).nodes.length = n := by rw [Gd.more_len, Hn.out]
    refine ⟨_, rfl, ⟨some ⟨G, 0, none⟩, c, by rw [hl2], by rw [hl2]; exact hcap.1, hcap.2, hC6, fun k hk => ?_⟩, hb6⟩
    simp only [Option.map_some, Option.some.injEq] at hk
    have h1 := Hs6.out
    have h2 := Hs5.out
    have h3 := Hsz4.out
    omega
end Go.Proofs.Ytopfhinnamhoiaa

/- Walk: RightGrid. -/
namespace Go.Proofs.Ytopfhinnamhoiaa
open Go.RowKit Go.Bs Go.Yd Go.Pl Go.Sort

set_option maxRecDepth 100000 in
set_option maxHeartbeats 4000000 in
theorem RightGrid_any (g : Gd) (A : Option Addr) (n cap : Nat) (w : World) (hn : g.nodes.length = n) (hm : n ≤ 1000) (hd : GdAt w A g) :
    Calls Try.prog 26 #[.agg #[.slice A n cap, .int .i64 g.limit]] w fun e w' => e = .returned (.bool g.okB) ∧ Below w.heap.size w w' := by
  have hb0 := ext_alloc w (.cells #[.slice A n cap, .int .i64 g.limit] 37)
  have hB := Blk.new w 37 [.slice A n cap, .int .i64 g.limit]
  have Hn := Lib.hid hn
  generalize hres : g.okB = res
  have hbad : ¬ g.ok → res = false := fun h => by
    cases hr : res
    · rfl
    · exact absurd ((Gd.okB_iff g).1 (hres.trans hr)) h
  have hgood : g.ok → res = true := fun h => by rw [← hres]; exact (Gd.okB_iff g).2 h
  have Hbad := Lib.hid hbad
  have Hgood := Lib.hid hgood
  clear hres hbad hgood
  go_enter Try.func26, Try.ntmps26
  go_upto_region 1 with fail
  change Blk (w.alloc (.cells #[.slice A n cap, .int .i64 g.limit] 37)) w.heap.size 37 [.slice A n cap, .int .i64 g.limit] at hB
  generalize w.alloc (.cells #[.slice A n cap, .int .i64 g.limit] 37) = W0 at *
  go_wp2
  go_loopw [3] (fun x wr => ∃ k : Nat, x = .int .i64 k ∧ k ≤ n ∧ Hid (∀ j, j < k → (g.node j).okAt j) ∧ Below w.heap.size w wr ∧ Blk wr w.heap.size 37 [.slice A n cap, .int .i64 g.limit]) (fun x _ => n - (intOf x).toNat)
  case atStart => exact ⟨0, rfl, by omega, Lib.hid (fun j hj => by omega), hb0, hB⟩
  case round =>
    clear hb0 hB
    obtain ⟨k, rfl, hk, Hk, hb, hB⟩ := hrel
    have x0 : wr.cell? ⟨w.heap.size, 0, none⟩ = _ := hB.cell rfl
    have x1 : wr.cell? ⟨w.heap.size, 1, none⟩ = _ := hB.cell rfl
    by_cases hlt : k < n
    · have hlt' : (k : Int) < (n : Int) := by omega
      have hk0 : (0 : Int) ≤ (k : Int) := by omega
      obtain ⟨b, off, rfl, -, c0, c1, c2, c3, c4⟩ := (hd.ext hb).node (k := k) (by omega)
      have hbx := Blk.new wr 52 (Nd.enc (g.node k))
      have hb2 := ext_trans hb (ext_alloc wr (.cells #[.int .i64 (g.node k).parent, .int .i64 (g.node k).load.lo, .int .i64 (g.node k).load.hi, .int .i64 (g.node k).fuse, .int .i64 (g.node k).sag] 52))
      have hB2 := hB.ext (ext_alloc wr (.cells #[.int .i64 (g.node k).parent, .int .i64 (g.node k).load.lo, .int .i64 (g.node k).load.hi, .int .i64 (g.node k).fuse, .int .i64 (g.node k).sag] 52))
      have bad : ¬ (g.node k).okAt k → res = false := fun h => Hbad.out (fun hok => h (hok.nodes k (by rw [Hn.out]; exact hlt)))
      have good : (g.node k).okAt k → ∀ j, j < k + 1 → (g.node j).okAt j := fun h j hj => by
        by_cases e : j = k
        · subst e; exact h
        · exact Hk.out j (by omega)
      have Bad := Lib.hid bad
      have Good := Lib.hid good
      clear bad good
      go_upto_region 5 with fail
      change Blk (wr.alloc (.cells #[.int .i64 (g.node k).parent, .int .i64 (g.node k).load.lo, .int .i64 (g.node k).load.hi, .int .i64 (g.node k).fuse, .int .i64 (g.node k).sag] 52)) wr.heap.size 52 [.int .i64 (g.node k).parent, .int .i64 (g.node k).load.lo, .int .i64 (g.node k).load.hi, .int .i64 (g.node k).fuse, .int .i64 (g.node k).sag] at hbx
      clear c0 c1 c2 c3 c4 x0 x1 hb hB
      generalize wr.alloc (.cells #[.int .i64 (g.node k).parent, .int .i64 (g.node k).load.lo, .int .i64 (g.node k).load.hi, .int .i64 (g.node k).fuse, .int .i64 (g.node k).sag] 52) = W1 at *
      have d0 : W1.cell? ⟨wr.heap.size, 0, none⟩ = _ := hbx.cell rfl
      have d1 : W1.cell? ⟨wr.heap.size, 1, none⟩ = _ := hbx.cell rfl
      have d2 : W1.cell? ⟨wr.heap.size, 2, none⟩ = _ := hbx.cell rfl
      have d3 : W1.cell? ⟨wr.heap.size, 3, none⟩ = _ := hbx.cell rfl
      have d4 : W1.cell? ⟨wr.heap.size, 4, none⟩ = _ := hbx.cell rfl
      generalize g.node k = d at *
      obtain ⟨p, ⟨lo, hi⟩, fu, sg⟩ := d
      simp only at d0 d1 d2 d3 d4
      clear hbx
      by_cases h1 : lo < 0
      · have Hr := Lib.hid (Bad.out (fun h => by have := h.load; simp only at this; omega))
        go_wp2
        go_ret
        exact ⟨ret_congr (bool_congr Hr.out.symm), hb2⟩
      have h1' : 0 ≤ lo := by omega
      clear h1
      by_cases h2 : hi < lo
      · have Hr := Lib.hid (Bad.out (fun h => by have := h.load; simp only at this; omega))
        go_wp2
        go_ret
        exact ⟨ret_congr (bool_congr Hr.out.symm), hb2⟩
      have h2' : lo ≤ hi := by omega
      clear h2
      by_cases h3 : 1000000 < hi
      · have Hr := Lib.hid (Bad.out (fun h => by have := h.load; simp only at this; omega))
        go_wp2
        go_ret
        exact ⟨ret_congr (bool_congr Hr.out.symm), hb2⟩
      have h3' : hi ≤ 1000000 := by omega
      clear h3
      go_upto_region 7 with fail
      by_cases hk1 : k = 0
      · subst hk1
        by_cases e1 : p = -1
        · subst e1
          by_cases e2 : fu = 0
          · subst e2
            by_cases e3 : sg = 0
            · subst e3
              have Hr := Lib.hid (Good.out ⟨⟨h1', h2', h3'⟩, fun _ => ⟨rfl, rfl, rfl⟩, fun h => by omega⟩)
              go_wp2
              go_roundw
              case rel => exact ⟨1, by go_num, by omega, Hr, hb2, hB2⟩
              case measure => simp [intOf]; omega
            · have e3' : (sg != 0) = true := by simpa using e3
              have Hr := Lib.hid (Bad.out (fun h => e3 (h.root rfl).2.2))
              clear e3
              go_wp2
              go_ret
              exact ⟨ret_congr (bool_congr Hr.out.symm), hb2⟩
          · have e2' : (fu != 0) = true := by simpa using e2
            have Hr := Lib.hid (Bad.out (fun h => e2 (h.root rfl).2.1))
            clear e2
            go_wp2
            go_ret
            exact ⟨ret_congr (bool_congr Hr.out.symm), hb2⟩
        · have e1' : (p != -1) = true := by simpa using e1
          have Hr := Lib.hid (Bad.out (fun h => e1 (h.root rfl).1))
          clear e1
          go_wp2
          go_ret
          exact ⟨ret_congr (bool_congr Hr.out.symm), hb2⟩
      · have hk1' : ((k : Int) == 0) = false := by simp; omega
        have hk2 : (0 : Int) < (k : Int) := by omega
        have hkk : ((k : Int) - 1) + 1 = (k : Int) := by omega
        by_cases e1 : 0 ≤ p ∧ p ≤ (k : Int) - 1
        · have C1 := Lib.hid (In_t e1)
          by_cases e2 : 0 ≤ fu ∧ fu ≤ 10000000
          · have C2 := Lib.hid (In_t e2)
            by_cases e3 : 0 ≤ sg ∧ sg ≤ 1000
            · have C3 := Lib.hid (In_t e3)
              have Hr := Lib.hid (Good.out ⟨⟨h1', h2', h3'⟩, fun h => absurd h hk1, fun h => ⟨⟨e1.1, by simp only; omega⟩, e2, e3⟩⟩)
              clear e1 e2 e3 hk1
              go_wp2_with fail
              refine (C1.out _).mono ?_; rintro e w1 ⟨rfl, rfl⟩
              go_wp2_with fail
              refine (C2.out _).mono ?_; rintro e w1 ⟨rfl, rfl⟩
              go_wp2_with fail
              refine (C3.out _).mono ?_; rintro e w1 ⟨rfl, rfl⟩
              go_wp2
              go_roundw
              case rel => exact ⟨k + 1, by go_num, by omega, Hr, hb2, hB2⟩
              case measure => simp [intOf]; omega
            · have C3 := Lib.hid (In_f e3)
              have Hr := Lib.hid (Bad.out (fun h => e3 (h.inn (by omega)).2.2))
              clear e1 e2 e3 hk1
              go_wp2_with fail
              refine (C1.out _).mono ?_; rintro e w1 ⟨rfl, rfl⟩
              go_wp2_with fail
              refine (C2.out _).mono ?_; rintro e w1 ⟨rfl, rfl⟩
              go_wp2_with fail
              refine (C3.out _).mono ?_; rintro e w1 ⟨rfl, rfl⟩
              go_wp2
              go_ret
              exact ⟨ret_congr (bool_congr Hr.out.symm), hb2⟩
          · have C2 := Lib.hid (In_f e2)
            have Hr := Lib.hid (Bad.out (fun h => e2 (h.inn (by omega)).2.1))
            clear e1 e2 hk1
            go_wp2_with fail
            refine (C1.out _).mono ?_; rintro e w1 ⟨rfl, rfl⟩
            go_wp2_with fail
            refine (C2.out _).mono ?_; rintro e w1 ⟨rfl, rfl⟩
            go_wp2
            go_ret
            exact ⟨ret_congr (bool_congr Hr.out.symm), hb2⟩
        · have C1 := Lib.hid (In_f e1)
          have Hr := Lib.hid (Bad.out (fun h => e1 (by have := (h.inn (by omega)).1; simp only at this; omega)))
          clear e1 hk1
          go_wp2_with fail
          refine (C1.out _).mono ?_; rintro e w1 ⟨rfl, rfl⟩
          go_wp2
          go_ret
          exact ⟨ret_congr (bool_congr Hr.out.symm), hb2⟩
    · obtain rfl : k = n := by omega
      by_cases h1 : 1 ≤ k
      · by_cases h2 : k ≤ 30
        · have h1' : (1 : Int) ≤ (k : Int) := by omega
          have h2' : (k : Int) ≤ 30 := by omega
          by_cases h3 : 0 ≤ g.limit ∧ g.limit ≤ 1000000000000
          · have C3 := Lib.hid (In_t h3)
            have Hr := Lib.hid (Hgood.out ⟨by rw [Hn.out]; exact ⟨h1, h2⟩, h3, fun i hi => Hk.out i (by rw [Hn.out] at hi; exact hi)⟩)
            clear h1 h2 h3
            go_wp2_with fail
            refine (C3.out _).mono ?_; rintro e w1 ⟨rfl, rfl⟩
            go_wp2
            go_ret
            exact ⟨ret_congr (bool_congr Hr.out.symm), hb⟩
          · have C3 := Lib.hid (In_f h3)
            have Hr := Lib.hid (Hbad.out (fun h => h3 h.lim))
            clear h1 h2 h3
            go_wp2_with fail
            refine (C3.out _).mono ?_; rintro e w1 ⟨rfl, rfl⟩
            go_wp2
            go_ret
            exact ⟨ret_congr (bool_congr Hr.out.symm), hb⟩
        · have h1' : (1 : Int) ≤ (k : Int) := by omega
          have h2' : (30 : Int) < (k : Int) := by omega
          have Hr := Lib.hid (Hbad.out (fun h => by have := h.len; rw [Hn.out] at this; omega))
          clear h1 h2
          go_wp2
          go_ret
          exact ⟨ret_congr (bool_congr Hr.out.symm), hb⟩
      · have h1' : (k : Int) < 1 := by omega
        have Hr := Lib.hid (Hbad.out (fun h => by have := h.len; rw [Hn.out] at this; omega))
        clear h1
        go_wp2
        go_ret
        exact ⟨ret_congr (bool_congr Hr.out.symm), hb⟩
end Go.Proofs.Ytopfhinnamhoiaa

/- The document's examples of layer 10, as plain data. -/
import Derived.Test.YtopfhinnamhoiaaRunsA
import Derived.Test.YtopfhinnamhoiaaBuyH
import Derived.Test.YtopfhinnamhoiaaStdC
import Derived.Test.YtopfhinnamhoiaaFlwC
namespace Go.Proofs.Ytopfhinnamhoiaa
open Go.RowKit Go.Yd Go.Pl Go.Sort Go.Bs

def planB (r : Rd) (l : List Int) : Bool :=
  decide (∀ i, i < l.length → (0 ≤ l.getD i 0 ∧ l.getD i 0 < r.days.length) ∧ (r.day (l.getD i 0).toNat).opn = true ∧ (i + 1 < l.length → l.getD i 0 < l.getD (i + 1) 0) ∧ r.feeds (qd r l i) (qd r l (i + 1)) = true) && decide (r.need 0 (qd r l 0) = 0)
theorem planB_iff (r : Rd) (l : List Int) : planB r l = true ↔ PlanOk r l := by
  unfold planB
  rw [Bool.and_eq_true, decide_eq_true_eq, decide_eq_true_eq]
  have hg : ∀ i (h : i < l.length), l.getD i 0 = l[i] := fun i h => by simp [h]
  constructor
  · rintro ⟨h, h0⟩
    refine ⟨fun i hi => ?_, fun i hi => ?_, fun i hi => ?_, fun i hi => (h i hi).2.2.2, h0⟩
    · have := (h i hi).1; rwa [hg i hi] at this
    · have := (h i hi).2.1; rwa [hg i hi] at this
    · have := (h i (by omega)).2.2.1 hi; rwa [hg i (by omega), hg (i + 1) hi] at this
  · intro h
    refine ⟨fun i hi => ⟨?_, ?_, fun h1 => ?_, h.fd i hi⟩, h.st⟩
    · rw [hg i hi]; exact h.rng i hi
    · rw [hg i hi]; exact h.opn i hi
    · rw [hg i hi, hg (i + 1) h1]; exact h.inc i h1
theorem wayOk : wayR.okB = true := by kernel_rfl
theorem plan013 : PlanOk wayR [0, 1, 3] := (planB_iff _ _).1 (by kernel_rfl)
theorem plan03 : PlanOk wayR [0, 3] := (planB_iff _ _).1 (by kernel_rfl)
theorem plan0 : ¬ PlanOk wayR [0] := fun h => by
  have := (planB_iff _ _).2 h
  have e : planB wayR [0] = false := by kernel_rfl
  rw [e] at this; cases this
theorem spend013 : spendR wayR [0, 1, 3] = (350, 0) := by
  rw [spendR_ok wayOk plan013]
  have : spN wayR [0, 1, 3] ([0, 1, 3] : List Int).length = 350 := by kernel_rfl
  rw [this]
theorem spend03 : spendR wayR [0, 3] = (320, 0) := by
  rw [spendR_ok wayOk plan03]
  have : spN wayR [0, 3] ([0, 3] : List Int).length = 320 := by kernel_rfl
  rw [this]
theorem spend0 : spendR wayR [0] = (0, 2) := spendR_no wayOk plan0
theorem lampsF : flowsR lampsG = ([⟨400, 700⟩, ⟨400, 700⟩, ⟨300, 500⟩], [⟨0, 0⟩, ⟨1200, 2100⟩, ⟨4200, 7100⟩], 0) := by kernel_rfl
theorem lamps1 : spareR lampsG 1 = (300, 0) := by kernel_rfl
def lowG : Gd := ⟨lampsG.nodes, 7000⟩
theorem low1 : spareR lowG 1 = (0, 9) := by kernel_rfl
def engs3 : List Eng := [⟨2000, 500, 300⟩, ⟨1000, 300, 400⟩, ⟨1500, 100, 500⟩]
theorem run3 : runR engs3 2500 1000 = ([0, 2], 1450000, 0) := by kernel_rfl
theorem run1 : runR [⟨5, 0, 0⟩] 5 1 = ([], 0, 7) := by kernel_rfl
theorem buyW : buyR wayR = ([0, 1], 320, tab 5 wayR.tbl, 0) := by
  have hM : wayR.tbl 0 = 320 := by kernel_rfl
  rw [buyR_some wayOk (by rw [hM]; decide)]
  have h1 : natsI wayR.planN = [0, 1] := by kernel_rfl
  rw [h1, hM]; rfl
theorem tblOk : TabOk wayR (tab 5 wayR.tbl) := tab_right ((Rd.okB_iff _).1 wayOk)
theorem tbl0 : tg (tab 5 wayR.tbl) 0 = 320 := by kernel_rfl
theorem prove01 : ProofOk wayR [0, 1] 320 (tab 5 wayR.tbl) := ⟨wayOk, (planB_iff _ _).1 (by kernel_rfl), by kernel_rfl, tblOk, by rw [tbl0]; decide⟩
theorem prove03 : ProofOk wayR [0, 3] 320 (tab 5 wayR.tbl) := ⟨wayOk, plan03, by kernel_rfl, tblOk, by rw [tbl0]; decide⟩
theorem prove013 : ¬ ProofOk wayR [0, 1, 3] 350 (tab 5 wayR.tbl) := fun h => by
  have := h.hd
  rw [tbl0] at this
  omega
def shutR : Rd := ⟨[⟨10, 5, 20, false⟩, ⟨20, 4, 50, true⟩, ⟨0, 9, 20, true⟩, ⟨30, 4, 30, true⟩], 3⟩
theorem buyS : buyR shutR = ([], 0, [], 7) := by
  have hok : shutR.okB = true := by kernel_rfl
  have hM : shutR.tbl 0 = 1000000000 := by kernel_rfl
  exact buyR_none hok (by rw [hM]; decide)
def fullY : Yrd := ⟨[60, 60, 40], [60, 30, 60], [(0, 2)]⟩
theorem standF : StandR fullY = ([], 7) := by kernel_rfl
theorem weary1 : wearyR 300 1200 [200] = (0, 0, 7) := by kernel_rfl
end Go.Proofs.Ytopfhinnamhoiaa

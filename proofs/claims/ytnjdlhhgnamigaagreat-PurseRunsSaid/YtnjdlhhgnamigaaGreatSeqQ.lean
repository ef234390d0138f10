/- A region that keeps its order, by quiet parts (long chains of && and ||): seq_start, then seq_q for each part that only reads, seq_e at a call, seq_skip at one that is passed over, seq_end. -/
import Derived.Test.YtnjdlhhgnamigaaGreatGround
namespace Go.Dr
section
variable {P : Program} {ops : Array Oper} {Q : Exit → Act → World → Prop}
theorem seq_start {id : Nat} {l : List Oper} {a : Act} {w : World} (h : wpList P l.toArray Q l a w) : (Code.region id l.toArray false).wp P Q a w := wp_region_lit h
/-- A long region is written in two parts: `refine Dr.seq_start2 (by simp only [List.append]; rfl) ?_`. -/
theorem seq_start2 {id : Nat} {l1 l2 l : List Oper} {a : Act} {w : World} (hl : l1.append l2 = l) (h : wpList P l.toArray Q l a w) : (Code.region id (l1.append l2).toArray false).wp P Q a w := by subst hl; exact wp_region_lit h
theorem seq_quiet : ∀ (l rest : List Oper) (a : Act) (w : World), wpQuiet P ops (fun w' => w' = w) (fun a' => wpList P ops Q rest a' w) l a → wpList P ops Q (l ++ rest) a w
  | [], rest, a, w, h => h
  | o :: l, rest, a, w, h => by
    unfold wpQuiet at h
    rw [List.cons_append]
    unfold wpList
    split
    · rename_i hw
      rw [if_pos hw] at h
      exact .inl (Oper.wp_of_quiet (C := fun w' => w' = w) rfl (fun a' w' hw' hq => by subst hw'; exact seq_quiet l rest a' _ hq) h)
    · rename_i hw
      rw [if_neg hw] at h
      exact seq_quiet l rest _ w h
theorem seq_q {full l rest : List Oper} {a : Act} {w : World} (he : full = l ++ rest) (h : ∀ K : Act → Prop, (∀ a', wpList P ops Q rest a' w → K a') → wpQuiet P ops (fun w' => w' = w) K l a) : wpList P ops Q full a w := by
  subst he
  exact seq_quiet l rest a w (h _ (fun _ h => h))
theorem seq_e {o : Oper} {rest : List Oper} {a : Act} {w : World} (hw : Region.wanted o (yielded ops a.tmps) = true) (h : ∀ K : Act → World → Prop, RowKit.Hid (∀ a' w', wpList P ops Q rest a' w' → K a' w') → o.wp P a w K Q) : wpList P ops Q (o :: rest) a w := by
  unfold wpList
  rw [if_pos hw]
  exact .inl (h _ (Lib.hid (fun _ _ h => h)))
theorem seq_skip {o : Oper} {rest : List Oper} {a : Act} {w : World} (hw : Region.wanted o (yielded ops a.tmps) = false) (h : wpList P ops Q rest (a.put o.dst undef) w) : wpList P ops Q (o :: rest) a w := by
  unfold wpList
  rw [hw]
  exact h
theorem seq_end {a : Act} {w : World} (h : Q .normal a w) : wpList P ops Q [] a w := h
end
end Go.Dr

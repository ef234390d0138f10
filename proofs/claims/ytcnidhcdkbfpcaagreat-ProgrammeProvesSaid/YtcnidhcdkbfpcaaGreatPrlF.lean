/- Walks: the reference's better and Best. -/
import Derived.Test.YtcnidhcdkbfpcaaGreatPgK
namespace Go.Pg
open Go.Pl
namespace Sh
/-- is a best list so far one of whole length and of acts? -/
def GoodO (s : Sh) (o : Option (List Nat)) : Prop := ∀ l, o = some l → l.length = s.acts.length ∧ ∀ x ∈ l, x < s.acts.length
theorem GoodO.none {s : Sh} : s.GoodO none := fun _ h => by cases h
theorem ext_good {s : Sh} : ∀ (k : Nat) (now : List Nat), (∀ x ∈ now, x < s.acts.length) → ∀ p ∈ s.ext k now, p.length = now.length + k ∧ ∀ x ∈ p, x < s.acts.length
  | 0, now, h, p, hp => by
    have : p = now := by simpa [ext] using hp
    rw [this]; exact ⟨rfl, h⟩
  | k + 1, now, h, p, hp => by
    unfold ext at hp
    rw [List.mem_flatMap] at hp
    obtain ⟨c, hc, hp⟩ := hp
    have hc2 : c < s.acts.length := by simpa using (List.mem_filter.1 hc).1
    obtain ⟨h1, h2⟩ := ext_good k (now ++ [c]) (fun x hx => by rcases List.mem_append.1 hx with h3 | h3; exact h x h3; rw [List.mem_singleton] at h3; omega) p hp
    exact ⟨by rw [h1, List.length_append, List.length_singleton]; omega, h2⟩
theorem pick_mem {α : Type} (c : α → Int) : ∀ (l : List α) (o : Option α) (r : α), l.foldl (pick c) o = some r → r ∈ l ∨ o = some r
  | [], o, r, h => .inr h
  | x :: l, o, r, h => by
    rcases pick_mem c l (pick c o x) r h with h1 | h1
    · exact .inl (List.mem_cons_of_mem _ h1)
    · unfold pick at h1
      split at h1
      · injection h1 with h1; exact .inl (by rw [h1]; simp)
      · split at h1
        · injection h1 with h1; exact .inl (by rw [h1]; simp)
        · exact .inr h1
theorem good_fold {s : Sh} {l : List (List Nat)} {o : Option (List Nat)} (ho : s.GoodO o) (hl : ∀ p ∈ l, p.length = s.acts.length ∧ ∀ x ∈ p, x < s.acts.length) : s.GoodO (l.foldl (pick s.cost) o) := by
  intro r hr
  rcases pick_mem _ _ _ _ hr with h | h
  · exact hl r h
  · exact ho r h
/-- what becomes of the best list while the acts up to i follow -/
def upB (s : Sh) (k : Nat) (now : List Nat) (o : Option (List Nat)) (i : Nat) : Option (List Nat) := (((List.range i).filter (s.can now)).flatMap fun c => s.ext k (now ++ [c])).foldl (pick s.cost) o
theorem upB_succ {s : Sh} (k : Nat) (now : List Nat) (o : Option (List Nat)) (i : Nat) : s.upB k now o (i + 1) = if s.can now i = true then (s.ext k (now ++ [i])).foldl (pick s.cost) (s.upB k now o i) else s.upB k now o i := by
  unfold upB
  rw [List.range_succ, List.filter_append, List.flatMap_append, List.foldl_append]
  by_cases h : s.can now i = true
  · rw [if_pos h, List.filter_cons, if_pos h]; simp
  · rw [if_neg h, List.filter_cons, if_neg h]; simp
theorem upB_end {s : Sh} (k : Nat) (now : List Nat) (o : Option (List Nat)) : s.upB k now o s.acts.length = (s.ext (k + 1) now).foldl (pick s.cost) o := rfl
theorem upB_good {s : Sh} {k : Nat} {now : List Nat} {o : Option (List Nat)} {i : Nat} (ho : s.GoodO o) (hn : ∀ x ∈ now, x < s.acts.length) (hk : now.length + (k + 1) = s.acts.length) (hi : i ≤ s.acts.length) : s.GoodO (s.upB k now o i) := by
  refine good_fold ho fun p hp => ?_
  rw [List.mem_flatMap] at hp
  obtain ⟨c, hc, hp⟩ := hp
  have hc2 : c < i := by simpa using (List.mem_filter.1 hc).1
  obtain ⟨h1, h2⟩ := ext_good k (now ++ [c]) (fun x hx => by rcases List.mem_append.1 hx with h3 | h3; exact hn x h3; rw [List.mem_singleton] at h3; omega) p hp
  exact ⟨by rw [h1, List.length_append, List.length_singleton]; omega, h2⟩
theorem can_at {s : Sh} (now : List Nat) (i : Nat) : s.can now i = (!now.contains i && decide (s.whyAt (now ++ [i]) now.length = 0)) := by
  unfold can whyAt
  rw [List.take_left', List.getD_eq_getElem?_getD]
  · simp
  · rfl
end Sh
end Go.Pg
namespace Go.Proofs.YtcnidhcdkbfpcaaGreat
open Go.RowKit Go.Bs Go.Pg Go.Pl Go.Sort
/-- a list or none, in memory -/
def OptV (W : World) (v : Value) : Option (List Nat) → Prop
  | none => v = .slice none 0 0
  | some l => ∃ a c, v = .slice (some a) l.length c ∧ Cells W (some a) 1 encI (toI l)
theorem OptV.ext {W W' : World} {v : Value} {o : Option (List Nat)} (h : OptV W v o) (hb : Below W.heap.size W W') : OptV W' v o := by
  cases o with
  | none => exact h
  | some l => obtain ⟨a, c, e, hc⟩ := h; exact ⟨a, c, e, hc.ext hb⟩
theorem OptV.of_own {W : World} {base : Nat} {v : Value} {l : List Nat} (h : OwnL W base 3 1 encI v (toI l)) (hl : 0 < l.length) : OptV W v (some l) := by
  obtain ⟨A, c, e, -, -, hc⟩ := h.cells encI_len
  obtain ⟨b, off, rfl, -, -⟩ := hc.at1 (k := 0) (by rw [toI_len]; exact hl) rfl
  exact ⟨_, c, by rw [e, toI_len], hc⟩
end Go.Proofs.YtcnidhcdkbfpcaaGreat

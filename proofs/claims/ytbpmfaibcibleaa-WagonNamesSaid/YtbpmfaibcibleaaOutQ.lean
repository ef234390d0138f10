/- Rows of which one after the other is made shorter. -/
import Derived.Test.YtbpmfaibcibleaaOutP
import Derived.Test.YtbpmfaibcibleaaLhpQ
import Derived.Test.YtbpmfaibcibleaaAppH
namespace Go.Wg
open Go.RowKit Go.Bs Go.Pl
theorem Cells.take' {α : Type} {w : World} {A : Option Addr} {sz : Nat} {enc : α → List Value} {l : List α} (h : Go.Bs.Cells w A sz enc l) (k : Nat) : Go.Bs.Cells w A sz enc (l.take k) := fun i x hi => by
  rw [List.getElem?_take] at hi
  split at hi
  · exact h i x hi
  · cases hi
theorem flat_set : ∀ (r : List RwV) (i : Nat) (x : RwV) (hi : i < r.length), (rows (r.set i x)).flatten.length + r[i].r.length = (rows r).flatten.length + x.r.length
  | [], i, _, hi => by simp at hi
  | a :: r, 0, x, _ => by simp [rows]; omega
  | a :: r, i + 1, x, hi => by
    have ih := flat_set r i x (by simpa using hi)
    simp only [List.set_cons_succ, List.getElem_cons_succ, rows, List.map_cons, List.flatten_cons, List.length_append] at ih ⊢
    omega
/-- what is left in the lanes -/
structure OutS (ts : List Th) (nl g : Nat) (W : World) (r : List RwV) (s : Nat) : Prop where
  len : r.length = nl
  hdr : Go.Bs.Cells W (some ⟨g, 0, none⟩) 1 RwV.enc r
  row : ∀ x ∈ r, Go.Bs.Cells W x.A 1 Go.Bs.encI x.r
  cap : ∀ x ∈ r, x.r.length ≤ x.c
  out : ∀ x ∈ r, x.A.map (·.block) ≠ some g
  inr : ∀ x ∈ r, InR ts.length x.r
  fal : ∀ x ∈ r, Falls ts x.r
  tot : (rows r).flatten.length + s = ts.length
  frz : ∀ i, W.frozen? ⟨g, i, none⟩ = false
theorem frozen_set (W : World) (p a : Addr) (u : Value) (h : W.frozen? a = false) : (W.setCell p u).frozen? a = false := by
  unfold World.frozen? World.setCell at *
  simp only [Array.getElem?_modify]
  by_cases e : p.block = a.block
  · rw [if_pos e]
    cases hh : W.heap[a.block]? with
    | none => rfl
    | some o =>
      rw [hh] at h
      cases o <;> first | exact h | (simp only [Option.map_some]; exact h) | simp_all
  · rw [if_neg e]; exact h
theorem OutS.take {ts : List Th} {nl g : Nat} {W : World} {r : List RwV} {s : Nat} (h : OutS ts nl g W r s) {i : Nat} (hi : i < r.length) {m : Nat} (hm : r[i].r.length = m + 1) : OutS ts nl g (W.setCell ⟨g, i, none⟩ (.slice r[i].A m r[i].c)) (r.set i ⟨r[i].r.take m, r[i].A, r[i].c⟩) (s + 1) := by
  have hmem := List.getElem_mem hi
  have hlen : (r[i].r.take m).length = m := by rw [List.length_take, hm]; omega
  have key : ∀ (Q : RwV → Prop), (∀ x ∈ r, Q x) → Q ⟨r[i].r.take m, r[i].A, r[i].c⟩ → ∀ x ∈ r.set i ⟨r[i].r.take m, r[i].A, r[i].c⟩, Q x := fun Q h1 h2 x hx => by
    rcases List.mem_or_eq_of_mem_set hx with h3 | h3
    · exact h1 x h3
    · rw [h3]; exact h2
  refine ⟨by rw [List.length_set]; exact h.len, ?_, key _ (fun x hx => ?_) ?_, key _ h.cap ?_, key _ h.out (h.out r[i] hmem), key _ h.inr ?_, key _ h.fal (falls_take (h.fal _ hmem) m), ?_, fun k => frozen_set _ _ _ _ (h.frz k)⟩
  · have := h.hdr.put1 (k := i) (r := 0) (x' := ⟨r[i].r.take m, r[i].A, r[i].c⟩) (u := .slice r[i].A m r[i].c) rwv_len hi (by omega) (by unfold RwV.enc; simp only [hlen]; rfl)
    rw [show 0 + (i * 1 + 0) = i by omega] at this
    exact this
  · exact (h.row x hx).setCell (fun e => h.out x hx e) _
  · exact Cells.take' ((h.row _ hmem).setCell (fun e => h.out _ hmem e) _) m
  · show (r[i].r.take m).length ≤ r[i].c
    have := h.cap _ hmem
    omega
  · exact fun y hy => h.inr _ hmem y (List.mem_of_mem_take hy)
  · have h1 := flat_set r i ⟨r[i].r.take m, r[i].A, r[i].c⟩ hi
    have h2 := h.tot
    simp only [hlen] at h1
    omega
theorem OutS.drew {ts : List Th} {nl g : Nat} {W : World} {r : List RwV} {s : Nat} (h : OutS ts nl g W r s) : OutS ts nl g W.drew r s := ⟨h.len, h.hdr.drew, fun x hx => (h.row x hx).drew, h.cap, h.out, h.inr, h.fal, h.tot, h.frz⟩
theorem OutS.done {ts : List Th} {nl g : Nat} {W : World} {r : List RwV} {s : Nat} (h : OutS ts nl g W r s) (hs : ts.length ≤ s) : ∀ x ∈ r, x.r.length = 0 := fun x hx => by
  have h5 : x.r.Sublist (rows r).flatten := List.sublist_flatten_of_mem (List.mem_map.2 ⟨x, hx, rfl⟩)
  have h6 := h5.length_le
  have := h.tot
  omega
/-- a thing of the least need at a door -/
def Door (ts : List Th) (r : List RwV) (L : Int) (z : Nat) : Prop := ∃ x, ((rows r).getD z []).getLast? = some x ∧ (thAt ts x).need = L
theorem Door.row {ts : List Th} {r : List RwV} {L : Int} {z : Nat} (hz : z < r.length) : Door ts r L z ↔ ∃ x, r[z].r.getLast? = some x ∧ (thAt ts x).need = L := by
  unfold Door
  have e : (rows r).getD z [] = r[z].r := by simp [rows, List.getD, hz]
  rw [e]
end Go.Wg

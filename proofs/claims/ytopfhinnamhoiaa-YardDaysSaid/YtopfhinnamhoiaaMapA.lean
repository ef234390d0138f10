/- A map from pairs of small numbers to true. -/
import Derived.DeepKeys4
import Derived.Maps.Keyed
import Derived.Test.YtopfhinnamhoiaaEnc
namespace Go.Proofs.Ytopfhinnamhoiaa
open Go.RowKit Go.Bs Go.Yd Go.Pl Go.Sort Go.Maps

theorem kt166 : Try.prog.keyTypeAt 5 166 = true := by kernel_rfl
theorem tl166 : Try.prog.tiled 5 166 = true := by kernel_rfl
theorem law166 : Keyed Try.prog 166 := Keyed.of_law (deep_law (m := 5) (by omega) kt166 tl166 (by kernel_rfl))
def pk (p : Nat × Nat) : Value := .agg #[.int .i64 (p.1 : Int), .int .i64 (p.2 : Int)]
theorem pk_inj {p q : Nat × Nat} (h : pk p = pk q) : p = q := by
  simp only [pk, Value.agg.injEq, Array.mk.injEq, List.cons.injEq, Value.int.injEq, true_and, and_true] at h
  exact Prod.ext (by omega) (by omega)
theorem all64 : ((List.range 8).all fun a => (List.range 8).all fun b => (keyOf Try.prog 166 (pk (a, b))).isSome) = true := by kernel_rfl
theorem key166 {p : Nat × Nat} (h1 : p.1 < 8) (h2 : p.2 < 8) : ∃ l, keyOf Try.prog 166 (pk p) = some l := by
  have h := List.all_eq_true.1 (List.all_eq_true.1 all64 p.1 (by simp [h1])) p.2 (by simp [h2])
  exact Option.isSome_iff_exists.1 h

/-- Block b holds the map that is true at just the pairs ps. -/
def PMap (w : World) (b : Nat) (ps : List (Nat × Nat)) : Prop :=
  ∃ es clock, w.heap[b]? = some (.map es clock) ∧ (∀ e ∈ es.toList, ∃ p ∈ ps, e.key = pk p ∧ e.val = .bool true) ∧ (∀ p ∈ ps, ∃ e ∈ es.toList, e.key = pk p) ∧ ∀ p ∈ ps, p.1 < 8 ∧ p.2 < 8
section
variable {w w' : World} {b : Nat} {ps : List (Nat × Nat)}
theorem PMap.lt (h : PMap w b ps) : b < w.heap.size := by
  obtain ⟨es, clock, hb, _⟩ := h
  exact (Array.getElem?_eq_some_iff.1 hb).1
theorem PMap.same (h : PMap w b ps) (hb : w'.heap[b]? = w.heap[b]?) : PMap w' b ps := by
  obtain ⟨es, clock, h1, h2⟩ := h
  exact ⟨es, clock, hb.trans h1, h2⟩
theorem PMap.ext (h : PMap w b ps) (hb : Below w.heap.size w w') : PMap w' b ps := h.same (hb.block b h.lt)
theorem PMap.new (w : World) : PMap (w.alloc (.map #[] 0)) w.heap.size [] :=
  ⟨#[], 0, by show (w.heap.push _)[w.heap.size]? = _; rw [Array.getElem?_push, if_pos rfl], by simp, by simp, by simp⟩
theorem zv4 : ∀ w, (zeroValue 4).run Try.prog w = .ok (.bool false) w := fun w => by kernel_rfl
theorem PMap.look (h : PMap w b ps) {p : Nat × Nat} (h1 : p.1 < 8) (h2 : p.2 < 8) : (Instr.lookup 138 (.map (some b)) (pk p) false).run Try.prog w = .ok (.bool (decide (p ∈ ps))) w := by
  obtain ⟨es, clock, hb, e1, e2, e3⟩ := h
  obtain ⟨l, hl⟩ := key166 h1 h2
  have hes : ∀ e ∈ es.toList, ∃ l, keyOf Try.prog 166 e.key = some l := fun e he => by
    obtain ⟨q, hq, hk, _⟩ := e1 e he
    rw [hk]
    exact key166 (e3 q hq).1 (e3 q hq).2
  rcases law166.find w hl es.toList hes with ⟨h3, h4⟩ | ⟨j, e, h3, h4, h5⟩
  · have hn : p ∉ ps := fun hp => by
      obtain ⟨e, he, hk⟩ := e2 p hp
      exact h4 e he hk
    rw [decide_eq_false hn]
    simp [Instr.lookup, run_underlying Try.underlying138, MapKept.run_getObj_map hb, law166.check w _ hl, h3, zv4, Result.andThen]
  · have he : e ∈ es.toList := List.mem_of_getElem? h4
    obtain ⟨q, hq, hk, hv⟩ := e1 e he
    have hpq : p = q := pk_inj (by rw [← h5, hk])
    rw [decide_eq_true (by rw [hpq]; exact hq)]
    simp [Instr.lookup, run_underlying Try.underlying138, MapKept.run_getObj_map hb, law166.check w _ hl, h3, hv, Result.andThen]
theorem PMap.put (h : PMap w b ps) {p : Nat × Nat} (h1 : p.1 < 8) (h2 : p.2 < 8) : ∃ w', (Instr.mapUpdate 138 (.map (some b)) (pk p) (.bool true)).run Try.prog w = .ok () w' ∧ PMap w' b (p :: ps) ∧ w.grownBy w' (some b) := by
  obtain ⟨es, clock, hb, e1, e2, e3⟩ := h
  obtain ⟨l, hl⟩ := key166 h1 h2
  have hbl : b < w.heap.size := (Array.getElem?_eq_some_iff.1 hb).1
  have hes : ∀ e ∈ es.toList, ∃ l, keyOf Try.prog 166 e.key = some l := fun e he => by
    obtain ⟨q, hq, hk, _⟩ := e1 e he
    rw [hk]
    exact key166 (e3 q hq).1 (e3 q hq).2
  have hgr : ∀ o : Obj, w.grownBy { w with heap := w.heap.setIfInBounds b o } (some b) := fun o => ⟨rfl, rfl, rfl, by simp, fun k hk hne => by
    show (w.heap.setIfInBounds b o)[k]? = _
    rw [Array.getElem?_setIfInBounds]
    rw [if_neg (fun e => hne (by rw [e]))]⟩
  have hnew : ∀ o : Obj, (w.heap.setIfInBounds b o)[b]? = some o := fun o => by rw [Array.getElem?_setIfInBounds, if_pos rfl, if_pos hbl]
  rcases law166.find w hl es.toList hes with ⟨h3, h4⟩ | ⟨j, e, h3, h4, h5⟩
  · refine ⟨{ w with heap := w.heap.setIfInBounds b (.map (es.push { key := pk p, val := .bool true, born := clock }) (clock + 1)) }, ?_, ⟨es.push { key := pk p, val := .bool true, born := clock }, clock + 1, hnew _, ?_, ?_, ?_⟩, hgr _⟩
    · simp [Instr.mapUpdate, run_underlying Try.underlying138, MapKept.run_getObj_map hb, law166.check w _ hl, h3, MapKept.run_setObj_map _ hb, Result.andThen]
    · intro e he
      rw [Array.toList_push, List.mem_append] at he
      rcases he with he | he
      · obtain ⟨q, hq, hk⟩ := e1 e he
        exact ⟨q, List.mem_cons_of_mem _ hq, hk⟩
      · simp at he
        subst he
        exact ⟨p, List.mem_cons_self, rfl, rfl⟩
    · intro q hq
      rw [Array.toList_push]
      rcases List.mem_cons.1 hq with rfl | hq
      · exact ⟨_, List.mem_append_right _ (List.mem_singleton.2 rfl), rfl⟩
      · obtain ⟨e, he, hk⟩ := e2 q hq
        exact ⟨e, List.mem_append_left _ he, hk⟩
    · intro q hq
      rcases List.mem_cons.1 hq with rfl | hq
      · exact ⟨h1, h2⟩
      · exact e3 q hq
  · have he : e ∈ es.toList := List.mem_of_getElem? h4
    obtain ⟨q, hq, hk, hv⟩ := e1 e he
    have hpq : p = q := pk_inj (by rw [← h5, hk])
    have hj : es[j]? = some e := by simpa using h4
    have hmod : es.modify j (fun e => { e with key := pk p, val := .bool true }) = es := by
      apply Array.ext_getElem?
      intro i
      rw [Array.getElem?_modify]
      split
      · rename_i hij; subst hij
        rw [hj, Option.map_some, ← h5, ← hv]
      · rfl
    refine ⟨{ w with heap := w.heap.setIfInBounds b (.map es clock) }, ?_, ⟨es, clock, hnew _, ?_, ?_, ?_⟩, hgr _⟩
    · simp [Instr.mapUpdate, run_underlying Try.underlying138, MapKept.run_getObj_map hb, law166.check w _ hl, h3, hj, h5, law166.stays w hl, MapKept.run_setObj_map _ hb, Result.andThen, hmod]
    · intro e he
      obtain ⟨q, hq, hk⟩ := e1 e he
      exact ⟨q, List.mem_cons_of_mem _ hq, hk⟩
    · intro q' hq'
      rcases List.mem_cons.1 hq' with rfl | hq'
      · exact ⟨e, he, h5⟩
      · exact e2 q' hq'
    · intro q' hq'
      rcases List.mem_cons.1 hq' with rfl | hq'
      · exact ⟨h1, h2⟩
      · exact e3 q' hq'
end
end Go.Proofs.Ytopfhinnamhoiaa

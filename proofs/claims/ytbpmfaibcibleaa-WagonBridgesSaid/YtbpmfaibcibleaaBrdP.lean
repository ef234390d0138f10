/- Plain: bridges; the frame of a frozen row. -/
import Derived.Test.YtbpmfaibcibleaaStoA
import Derived.Test.YtbpmfaibcibleaaLhpQ
import Derived.Test.YtbpmfaibcibleaaAppH
/- Plain: a bridge that stops a lorry stops it with one thing more. -/
namespace Go.Wg
open Go.RowKit Go.Bs Go.Pl
theorem thAt_more (ts : List Th) (t : Th) {x : Int} (h0 : 0 ≤ x) (h1 : x < ts.length) : thAt (ts ++ [t]) x = thAt ts x := by
  obtain ⟨k, rfl⟩ : ∃ k : Nat, x = k := ⟨x.toNat, by omega⟩
  have hk : k < ts.length := by omega
  rw [thAt_eq hk, thAt_eq (by rw [List.length_append]; omega), List.getElem_append_left hk]
theorem thAt_last (ts : List Th) (t : Th) : thAt (ts ++ [t]) (ts.length : Int) = t := by
  rw [thAt_eq (by rw [List.length_append]; simp)]
  simp
theorem massL_more (ts : List Th) (t : Th) (n : Nat) (hn : n ≤ ts.length) : massL (ts ++ [t]) (upto n) = massL ts (upto n) := by
  unfold massL
  congr 1
  apply List.map_congr_left
  intro x hx
  have := mem_upto.1 hx
  rw [thAt_more ts t this.1 (by omega)]
theorem foldl_congr' {f g : Int → Int → Int} : ∀ (l : List Int) (z : Int), (∀ m, ∀ x ∈ l, f m x = g m x) → l.foldl f z = l.foldl g z
  | [], _, _ => rfl
  | a :: l, z, h => by
    rw [List.foldl_cons, List.foldl_cons, h z a (by simp)]
    exact foldl_congr' l _ fun m x hx => h m x (by simp [hx])
theorem highL_more (ts : List Th) (t : Th) (n : Nat) (hn : n ≤ ts.length) : highL (ts ++ [t]) (upto n) = highL ts (upto n) := by
  unfold highL
  refine foldl_congr' _ _ fun m x hx => ?_
  have := mem_upto.1 hx
  rw [thAt_more ts t this.1 (by omega)]
theorem stops_more {j : Lo} {ts : List Th} {t : Th} {P Q : List (List Int)} {bs : List Br} (h0 : checkE j (ts ++ [t]) = 0) (hP : rightB j ts P = true) (hQ : rightB j (ts ++ [t]) Q = true) : ∀ x ∈ stopsL j ts P bs, x ∈ stopsL j (ts ++ [t]) Q bs := by
  obtain ⟨-, -, hok⟩ := checkE_zero.1 h0
  have ht := hok t (by simp)
  have hm : massL ts P.flatten ≤ massL (ts ++ [t]) Q.flatten := by
    rw [massL_perm (right_iff.1 hP).perm, massL_perm (right_iff.1 hQ).perm, List.length_append, List.length_singleton, upto_succ]
    have e : massL (ts ++ [t]) (upto ts.length ++ [(ts.length : Int)]) = massL (ts ++ [t]) (upto ts.length) + t.mass := by
      unfold massL
      rw [List.map_append, isum_append]
      simp only [List.map_cons, List.map_nil, isum, thAt_last]
      omega
    rw [e, massL_more ts t _ (Nat.le_refl _)]
    have := ht.mass
    omega
  have hh : highL ts P.flatten ≤ highL (ts ++ [t]) Q.flatten := by
    rw [highL_perm (right_iff.1 hP).perm, highL_perm (right_iff.1 hQ).perm, List.length_append, List.length_singleton, upto_succ, highL_snoc, highL_more ts t _ (Nat.le_refl _)]
    omega
  intro x hx
  unfold stopsL stopsTo at *
  rw [List.mem_filter] at hx ⊢
  refine ⟨hx.1, ?_⟩
  have := hx.2
  unfold stpB at *
  rw [Bool.or_eq_true, decide_eq_true_eq, decide_eq_true_eq] at *
  omega
/-- Whether the first y hold the value. -/
def hasB (v : Int) (l : List Int) (y : Nat) : Bool := decide (v ∈ l.take y)

theorem hasB_zero (v : Int) (l : List Int) : hasB v l 0 = false := by simp [hasB]

theorem hasB_succ (v : Int) (l : List Int) (y : Nat) (h : y < l.length) : hasB v l (y + 1) = (hasB v l y || decide (l[y] = v)) := by
  unfold hasB
  rw [List.take_succ_eq_append_getElem h, Bool.eq_iff_iff]
  simp only [List.mem_append, List.mem_singleton, Bool.or_eq_true, decide_eq_true_eq]
  constructor
  · rintro (h | h)
    · exact .inl h
    · exact .inr h.symm
  · rintro (h | h)
    · exact .inl h
    · exact .inr h.symm

theorem hasB_all {v : Int} {l : List Int} {y : Nat} (h : l.length ≤ y) (hv : v ∈ l) : hasB v l y = true := by
  unfold hasB
  rw [List.take_of_length_le h]
  exact decide_eq_true hv

end Go.Wg

/- One row of rows put anew. -/
namespace Go.Wg
open Go.RowKit Go.Bs Go.Pl
theorem row_put {W : World} {g i : Nat} {r : List RwV} {x' : RwV} (hdr : Go.Bs.Cells W (some ⟨g, 0, none⟩) 1 RwV.enc r) (hrow : ∀ x ∈ r, Go.Bs.Cells W x.A 1 Go.Bs.encI x.r) (hcap : ∀ x ∈ r, x.r.length ≤ x.c) (hout : ∀ x ∈ r, x.A.map (·.block) ≠ some g) (hi : i < r.length)
    (h1 : Go.Bs.Cells W x'.A 1 Go.Bs.encI x'.r) (h2 : x'.r.length ≤ x'.c) (h3 : x'.A.map (·.block) ≠ some g) : RwM (W.setCell ⟨g, i, none⟩ (.slice x'.A x'.r.length x'.c)) (some ⟨g, 0, none⟩) (r.set i x') := by
  refine ⟨?_, fun x hx => ?_, fun x hx => ?_⟩
  · have := hdr.put1 (k := i) (r := 0) (x' := x') (u := .slice x'.A x'.r.length x'.c) rwv_len hi (by omega) rfl
    rw [show 0 + (i * 1 + 0) = i by omega] at this
    exact this
  · rcases List.mem_or_eq_of_mem_set hx with h4 | h4
    · exact (hrow x h4).setCell (fun e => hout x h4 e) _
    · rw [h4]; exact h1.setCell (fun e => h3 e) _
  · rcases List.mem_or_eq_of_mem_set hx with h4 | h4
    · exact hcap x h4
    · rw [h4]; exact h2
theorem flat_put : ∀ (r : List RwV) (i : Nat) (x : RwV) (hi : i < r.length), (rows (r.set i x)).flatten.length + r[i].r.length = (rows r).flatten.length + x.r.length
  | [], i, _, hi => by simp at hi
  | a :: r, 0, x, _ => by simp [rows]; omega
  | a :: r, i + 1, x, hi => by
    have ih := flat_put r i x (by simpa using hi)
    simp only [List.set_cons_succ, List.getElem_cons_succ, rows, List.map_cons, List.flatten_cons, List.length_append] at ih ⊢
    omega
theorem cells_take {α : Type} {w : World} {A : Option Addr} {sz : Nat} {enc : α → List Value} {l : List α} (h : Go.Bs.Cells w A sz enc l) (k : Nat) : Go.Bs.Cells w A sz enc (l.take k) := fun i x hi => by
  rw [List.getElem?_take] at hi
  split at hi
  · exact h i x hi
  · cases hi
theorem frozen_ext {w w' : World} {g i : Nat} (hb : Below w.heap.size w w') (hg : g < w.heap.size) (h : w.frozen? ⟨g, i, none⟩ = false) : w'.frozen? ⟨g, i, none⟩ = false := by
  unfold World.frozen? at *
  rw [hb.block g hg]
  exact h
theorem own_lower {α : Type} {w : World} {b0 base : Nat} {e : TypeId} {sz : Nat} {enc : α → List Value} {v : Value} {l : List α} (h : Go.Bs.OwnL w base e sz enc v l) (hb : b0 ≤ base) : Go.Bs.OwnL w b0 e sz enc v l := by
  refine ⟨h.1, ?_⟩
  rcases h.2 with h2 | ⟨g, cap, cur, hv, hbg, hr⟩
  · exact .inl h2
  · exact .inr ⟨g, cap, cur, hv, Nat.le_trans hb hbg, hr⟩
end Go.Wg

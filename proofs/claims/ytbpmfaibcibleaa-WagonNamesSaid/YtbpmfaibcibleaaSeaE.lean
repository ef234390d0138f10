/- The search from any state; rows of the call's own that lie apart. -/
import Derived.Test.YtbpmfaibcibleaaSeaD
namespace Go.Wg
open Go.RowKit Go.Bs Go.Pl
/-- rows of the call's own, which lie apart, in a block of headers -/
structure RwJ (b0 : Nat) (W : World) (O : Nat) (P : List (List Int)) (vs : List Value) : Prop where
  blk : Blk W O 35 vs
  len : vs.length = P.length
  own : ∀ (i : Nat) (v : Value) (l : List Int), vs[i]? = some v → P[i]? = some l → OwnL W b0 3 1 encI v l
  apart : ∀ (i j : Nat) (v u : Value), i ≠ j → vs[i]? = some v → vs[j]? = some u → u.ownBlock = none ∨ u.ownBlock ≠ v.ownBlock
  out : ∀ (i : Nat) (v : Value), vs[i]? = some v → v.ownBlock ≠ some O
  ge : b0 ≤ O
section
variable {b0 O : Nat} {W W' : World} {P : List (List Int)} {vs : List Value}
theorem RwJ.ext (h : RwJ b0 W O P vs) (hb : Below W.heap.size W W') : RwJ b0 W' O P vs :=
  ⟨h.blk.ext hb, h.len, fun i v l h1 h2 => (h.own i v l h1 h2).ext hb, h.apart, h.out, h.ge⟩
/-- one row is written -/
theorem RwJ.row (h : RwJ b0 W O P vs) {i : Nat} {v v' : Value} {l' : List Int} (hv : vs[i]? = some v) (hO : OwnL W' b0 3 1 encI v' l') (hg : W.grownBy W' v.ownBlock) (hat : v'.ownBlock = v.ownBlock ∨ v'.ownBlock = none ∨ ∃ g, v'.ownBlock = some g ∧ W.heap.size ≤ g) :
    RwJ b0 (W'.setCell ⟨O, i, none⟩ v') O (P.set i l') (vs.set i v') := by
  have hi : i < vs.length := (List.getElem?_eq_some_iff.1 hv).1
  have hOlt := h.blk.lt
  have hOv := h.out i v hv
  have hv'O : v'.ownBlock ≠ some O := by
    rcases hat with e | e | ⟨g, e, hge⟩
    · rw [e]; exact hOv
    · rw [e]; simp
    · rw [e]; intro e2; simp at e2; omega
  have hblk : Blk W' O 35 vs := (hg.block O hOlt (fun e => hOv e.symm)).trans h.blk
  refine ⟨hblk.set i v', by simp [h.len], ?_, ?_, ?_, h.ge⟩
  · intro j u l hu hl
    by_cases e : i = j
    · subst e
      rw [List.getElem?_set_self hi] at hu
      rw [List.getElem?_set_self (by rw [← h.len]; exact hi)] at hl
      cases hu; cases hl
      exact hO.put (by simpa using hv'O) _
    · rw [List.getElem?_set_ne e] at hu hl
      exact ((h.own j u l hu hl).kept hg (h.apart i j v u e hv hu)).put (by simpa using h.out j u hu) _
  · intro a b x y hab hx hy
    have hlt : ∀ (j : Nat) (u : Value), vs[j]? = some u → ∀ k, u.ownBlock = some k → k < W.heap.size := fun j u hu k hk => by
      have hj : j < P.length := by rw [← h.len]; exact (List.getElem?_eq_some_iff.1 hu).1
      exact ((h.own j u _ hu (List.getElem?_eq_getElem hj)).lt hk).2
    have key : ∀ (j : Nat) (u : Value), i ≠ j → vs[j]? = some u → (u.ownBlock = none ∨ u.ownBlock ≠ v'.ownBlock) := fun j u hij hu => by
      rcases hat with e | e | ⟨g, e, hge⟩
      · rw [e]; exact h.apart i j v u hij hv hu
      · rw [e]; cases hq : u.ownBlock <;> simp
      · rw [e]
        refine .inr fun e2 => ?_
        have := hlt j u hu g e2; omega
    by_cases ea : i = a
    · subst ea
      rw [List.getElem?_set_self hi] at hx
      rw [List.getElem?_set_ne hab] at hy
      cases hx
      exact key b y hab hy
    · rw [List.getElem?_set_ne ea] at hx
      by_cases eb : i = b
      · subst eb
        rw [List.getElem?_set_self hi] at hy
        cases hy
        rcases key a x ea hx with e | e
        · by_cases e3 : v'.ownBlock = none
          · exact .inl e3
          · right; rw [e]; exact e3
        · exact .inr (Ne.symm e)
      · rw [List.getElem?_set_ne eb] at hy
        exact h.apart a b x y hab hx hy
  · intro j u hu
    by_cases e : i = j
    · subst e
      rw [List.getElem?_set_self hi] at hu
      cases hu; exact hv'O
    · rw [List.getElem?_set_ne e] at hu
      exact h.out j u hu
/-- one row is put in order -/
theorem RwJ.sort (h : RwJ b0 W O P vs) {i g : Nat} {v : Value} {l' : List Int} (hv : vs[i]? = some v) (hg : v.ownBlock = some g) (hO : OwnL W' b0 3 1 encI v l') (hb : Dr.Bel [g] W W') : RwJ b0 W' O (P.set i l') vs := by
  have hgr : W.grownBy W' (some g) := ⟨hb.os, hb.tape, hb.output, hb.size, fun k hk hm => hb.block k hk (fun e => hm (by simp at e; rw [e]))⟩
  have hOg : O ≠ g := fun e => h.out i v hv (by rw [hg, e])
  refine ⟨hb.blk h.blk (by simpa using hOg), by simp [h.len], ?_, h.apart, h.out, h.ge⟩
  intro j u l hu hl
  by_cases e : i = j
  · subst e
    rw [hv] at hu
    cases hu
    rw [List.getElem?_set_self (by rw [← h.len]; exact (List.getElem?_eq_some_iff.1 hv).1)] at hl
    cases hl; exact hO
  · rw [List.getElem?_set_ne e] at hl
    refine (h.own j u l hu hl).kept hgr ?_
    rcases h.apart i j v u e hv hu with h1 | h1
    · exact .inl h1
    · exact .inr (by rw [← hg]; exact h1)
/-- empty rows -/
theorem RwJ.start {n : Nat} (hB : Blk W O 35 (List.replicate n (Value.slice none 0 0))) (hO : b0 ≤ O) : RwJ b0 W O (List.replicate n []) (List.replicate n (Value.slice none 0 0)) := by
  have hr : ∀ (i : Nat) (v : Value), (List.replicate n (Value.slice none 0 0))[i]? = some v → v = .slice none 0 0 := fun i v h => by
    rw [List.getElem?_replicate] at h
    split at h <;> simp at h
    exact h.symm
  refine ⟨hB, by simp, ?_, ?_, ?_, hO⟩
  · intro i v l h1 h2
    rw [hr i v h1]
    rw [List.getElem?_replicate] at h2
    split at h2 <;> simp at h2
    subst h2
    exact OwnL.nil
  · intro i j v u _ _ hu
    rw [hr j u hu]; exact .inl rfl
  · intro i v hv
    rw [hr i v hv]; simp [Value.ownBlock]
end
/-- a row's own block, whole -/
theorem own_block {W : World} {b0 g n cap : Nat} {l : List Int} (h : OwnL W b0 3 1 encI (.slice (some ⟨g, 0, none⟩) n cap) l) : n = l.length ∧ ∃ sp, Blk W g 3 (l.map (Value.int .i64) ++ sp) ∧ b0 ≤ g ∧ ∀ W' l', l'.length = l.length → Blk W' g 3 (l'.map (Value.int .i64) ++ sp) → OwnL W' b0 3 1 encI (.slice (some ⟨g, 0, none⟩) n cap) l' := by
  obtain ⟨h1, h2⟩ := h
  have hfm : ∀ k : List Int, k.flatMap encI = k.map (Value.int .i64) := encI_flat
  rw [hfm] at h1 h2
  rcases h2 with ⟨e, -⟩ | ⟨g', cap', cur, e, hb, hg, hnc, hcm, hcs, htk⟩
  · cases e
  · simp only [Value.slice.injEq, Option.some.injEq, Addr.mk.injEq] at e
    obtain ⟨⟨rfl, -, -⟩, rfl, rfl⟩ := e
    rw [Nat.mul_one] at htk hcs
    refine ⟨rfl, cur.toList.drop l.length, ?_, hb, fun W' l' hl hB => ?_⟩
    · unfold Blk
      rw [← htk, List.take_append_drop]; simpa using hg
    · refine ⟨by rw [hfm]; simp, .inr ⟨g, cap, _, by rw [hl], hb, hB, by omega, hcm, ?_, ?_⟩⟩
      · simp [hl, hcs]; omega
      · rw [hfm, Nat.mul_one]
        simp
end Go.Wg
namespace Go.Proofs.Ytbpmfaibcibleaa
open Go.RowKit Go.Bs Go.Wg Go.Pl Go.Sort
theorem FdC.mono {p : SeP} {x : Sta} {U V : Nat} (h : FdC p x U) (hUV : U ≤ V) : FdC p x V := by
  intro n W inl hM hm hr hl hn
  refine (h n W inl hM hm hr hl (by omega)).mono ?_
  rintro e W' ⟨h1, h2, h3, h4⟩
  exact ⟨h1, h2, h3.mono (by omega), h4⟩
theorem find_all (p : SeP) (hs : SeS p) : ∀ (k : Nat) (x : Sta), x.Ok p.l.length → p.l.length - x.next = k → FdC p x (updN k) := by
  intro k
  induction k with
  | zero =>
    intro x hx hk
    have h := find_step p hs x hx 0 (fun hlt => by omega)
    exact h.mono (by rw [Nat.mul_zero]; exact Nat.le_refl _)
  | succ k ih =>
    intro x hx hk
    have h := find_step p hs x hx (updN k) (fun hlt i hi => ih _ (nxt_ok hs hx hlt hi) (by show p.l.length - (x.next + 1) = k; omega))
    refine h.mono ?_
    have hm : p.nl * updN k ≤ 6 * updN k := Nat.mul_le_mul_right _ hs.many
    show p.nl * updN k + 1 ≤ 1 + 6 * updN k
    omega
end Go.Proofs.Ytbpmfaibcibleaa

/- Plain: lorries that are filled by need; how they lie in memory. -/
import Derived.Test.YtbpmfaibcibleaaWhoP
import Derived.Test.YtbpmfaibcibleaaRefP
import Derived.Test.YtbpmfaibcibleaaPkdA
import Derived.Test.YtbpmfaibcibleaaLhpE
/- Plain: lorries that are filled by need. -/
namespace Go.Wg
open Go.RowKit Go.Bs Go.Pl
/-- a beginning of the rest is tried -/
def tryL (l : Lo) (ts : List Th) (rest : List Int) (n : Nat) : Option (List (List Int)) := packL l ts (srtL (rest.take n)) false
def limF (rest : List Int) : Nat := min 14 rest.length
def manyF (l : Lo) (ts : List Th) (rest : List Int) : Nat := ((List.range (limF rest)).takeWhile fun k => (tryL l ts rest (k + 1)).isSome).length
def bestN (l : Lo) (ts : List Th) (rest : List Int) : Nat → List (List Int)
  | 0 => List.replicate l.lanes.length []
  | k + 1 => (tryL l ts rest (k + 1)).getD []
def bestF (l : Lo) (ts : List Th) (rest : List Int) : List (List Int) := bestN l ts rest (manyF l ts rest)
def fillP (ts : List Th) : List Lo → List Int → List (List (List Int))
  | [], _ => []
  | l :: ls, rest => bestF l ts rest :: fillP ts ls (rest.drop (manyF l ts rest))
def fillR (ts : List Th) : List Lo → List Int → List Int
  | [], rest => rest
  | l :: ls, rest => fillR ts ls (rest.drop (manyF l ts rest))
def nk (ts : List Th) (x : Int) : Int := (thAt ts x).need
def byNeed (ts : List Th) : List Int := rankL (nk ts) ts.length
theorem tw_len (p : Nat → Bool) : ∀ (n m : Nat), m ≤ n → (∀ k, k < m → p k = true) → (m = n ∨ p m = false) → ((List.range n).takeWhile p).length = m := by
  intro n m hm hp he
  obtain ⟨d, rfl⟩ : ∃ d, n = m + d := ⟨n - m, by omega⟩
  rw [List.range_add, List.takeWhile_append_of_pos (fun x hx => hp x (List.mem_range.1 hx)), List.length_append, List.length_range]
  cases d with
  | zero => simp
  | succ d =>
    have h1 : p m = false := he.resolve_left (by omega)
    rw [List.range_succ_eq_map, List.map_cons, List.takeWhile_cons]
    simp [h1]
theorem tw_ex (p : Nat → Bool) : ∀ n, ∃ m, m ≤ n ∧ (∀ k, k < m → p k = true) ∧ (m = n ∨ p m = false)
  | 0 => ⟨0, by omega, by omega, .inl rfl⟩
  | n + 1 => by
    obtain ⟨m, h1, h2, h3⟩ := tw_ex p n
    rcases h3 with h3 | h3
    · subst h3
      cases hq : p m with
      | false => exact ⟨m, by omega, h2, .inr hq⟩
      | true => exact ⟨m + 1, by omega, fun k hk => by
          by_cases e : k = m
          · rw [e]; exact hq
          · exact h2 k (by omega), .inl rfl⟩
    · exact ⟨m, by omega, h2, .inr h3⟩
theorem many_eq {l : Lo} {ts : List Th} {rest : List Int} {m : Nat} (h1 : m ≤ limF rest) (h2 : ∀ k, k < m → (tryL l ts rest (k + 1)).isSome = true) (h3 : m = limF rest ∨ tryL l ts rest (m + 1) = none) : manyF l ts rest = m :=
  tw_len _ _ m h1 h2 (h3.imp id fun h => by rw [h]; rfl)
theorem many_spec (l : Lo) (ts : List Th) (rest : List Int) : manyF l ts rest ≤ limF rest ∧ (∀ k, k < manyF l ts rest → (tryL l ts rest (k + 1)).isSome = true) := by
  obtain ⟨m, h1, h2, h3⟩ := tw_ex (fun k => (tryL l ts rest (k + 1)).isSome) (limF rest)
  have e : manyF l ts rest = m := tw_len _ _ m h1 h2 h3
  rw [e]
  exact ⟨h1, h2⟩
theorem many_le (l : Lo) (ts : List Th) (rest : List Int) : manyF l ts rest ≤ rest.length := by
  have := (many_spec l ts rest).1
  unfold limF at this
  omega
theorem many_nil (l : Lo) (ts : List Th) : manyF l ts [] = 0 := by
  have := many_le l ts []
  simp at this
  exact this
theorem best_nil (l : Lo) (ts : List Th) : bestF l ts [] = List.replicate l.lanes.length [] := by unfold bestF; rw [many_nil]; rfl
theorem fillR_snoc (ts : List Th) (l : Lo) : ∀ (ls : List Lo) (rest : List Int), fillR ts (ls ++ [l]) rest = (fillR ts ls rest).drop (manyF l ts (fillR ts ls rest))
  | [], _ => rfl
  | _ :: ls, _ => fillR_snoc ts l ls _
theorem fillP_snoc (ts : List Th) (l : Lo) : ∀ (ls : List Lo) (rest : List Int), fillP ts (ls ++ [l]) rest = fillP ts ls rest ++ [bestF l ts (fillR ts ls rest)]
  | [], _ => rfl
  | a :: ls, rest => by
    rw [List.cons_append, fillP, fillP_snoc ts l ls _]
    rfl
theorem fillP_len (ts : List Th) : ∀ (ls : List Lo) (rest : List Int), (fillP ts ls rest).length = ls.length
  | [], _ => rfl
  | _ :: ls, _ => by rw [fillP, List.length_cons, List.length_cons, fillP_len ts ls]
/-- a part of the rest -/
theorem fillR_suffix (ts : List Th) : ∀ (ls : List Lo) (rest : List Int), ∃ k, fillR ts ls rest = rest.drop k
  | [], rest => ⟨0, by simp [fillR]⟩
  | l :: ls, rest => by
    obtain ⟨k, hk⟩ := fillR_suffix ts ls (rest.drop (manyF l ts rest))
    exact ⟨manyF l ts rest + k, by rw [fillR, hk, List.drop_drop]⟩
/-! ### What the packings hold -/
theorem flat_ins (f : Nat → List Int) (n : Int) (k : Nat) : ∀ L : List Nat, L.Nodup → k ∈ L → ((L.map fun i => if k = i then n :: f i else f i).flatten).Perm (n :: (L.map f).flatten)
  | [], _, h => by cases h
  | a :: L, hn, h => by
    have h1 := List.nodup_cons.1 hn
    rw [List.map_cons, List.flatten_cons, List.map_cons, List.flatten_cons]
    by_cases e : k = a
    · subst e
      rw [if_pos rfl, show (L.map fun i => if k = i then n :: f i else f i) = L.map f from List.map_congr_left fun i hi => if_neg fun e => h1.1 (by rw [e]; exact hi)]
      exact List.Perm.refl _
    · rw [if_neg e]
      have ih := flat_ins f n k L h1.2 ((List.mem_cons.1 h).resolve_left e)
      exact (ih.append_left (f a)).trans List.perm_middle
theorem part_flat (nl : Nat) : ∀ (l : List Int) (p : List Nat), p.length = l.length → (∀ i ∈ p, i < nl) → (((List.range nl).map (part l p)).flatten).Perm l
  | [], p, _, _ => by
    have : ((List.range nl).map (part [] p)) = List.replicate nl [] := by
      apply List.ext_getElem?
      intro i
      by_cases h : i < nl <;> simp [h, part_nil]
    rw [this]
    simp
  | n :: r, [], h, _ => by simp at h
  | n :: r, k :: p, h, hp => by
    have ih := part_flat nl r p (by simpa using h) (fun i hi => hp i (by simp [hi]))
    have e : (List.range nl).map (part (n :: r) (k :: p)) = (List.range nl).map fun i => if k = i then n :: part r p i else part r p i := List.map_congr_left fun i _ => part_cons n r k p i
    rw [e]
    exact (flat_ins (part r p) n k (List.range nl) List.nodup_range (List.mem_range.2 (hp k (by simp)))).trans (ih.cons n)
theorem flat_perm {f g : Nat → List Int} (h : ∀ i, (f i).Perm (g i)) : ∀ L : List Nat, ((L.map f).flatten).Perm ((L.map g).flatten)
  | [] => List.Perm.refl _
  | a :: L => by
    rw [List.map_cons, List.flatten_cons, List.map_cons, List.flatten_cons]
    exact (h a).append (flat_perm h L)
theorem fitP_lt {nl : Nat} {ld : Bool} : ∀ (ts : List Th) (left needs : List Int) (p : List Nat), fitP nl ld ts left needs p → ∀ i ∈ p, i < nl
  | [], _, _, [], _ => by simp
  | [], _, _, _ :: _, h => h.elim
  | _ :: _, _, _, [], h => h.elim
  | t :: r, left, needs, k :: p, h => by
    intro i hi
    rcases List.mem_cons.1 hi with rfl | hi
    · exact h.1
    · exact fitP_lt r _ _ p h.2.2 i hi
theorem packL_flat {j : Lo} {ts : List Th} {l : List Int} {ld : Bool} {P : List (List Int)} (h : packL j ts l ld = some P) : P.length = j.lanes.length ∧ P.flatten.Perm l := by
  unfold packL at h
  by_cases hc : carB j ts l = true
  · rw [if_pos hc] at h
    obtain ⟨p, hp, rfl⟩ := Option.map_eq_some_iff.1 h
    have h1 := srch_len _ _ _ _ hp
    rw [List.length_map] at h1
    have h2 := fitP_lt _ _ _ _ (srch_fit _ _ _ _ hp)
    refine ⟨by simp [laid], ?_⟩
    unfold laid
    exact (flat_perm (fun i => sortL_perm (needC ts) (part l p i)) _).trans (part_flat _ l p h1 h2)
  · rw [if_neg hc] at h; cases h
theorem best_flat (l : Lo) (ts : List Th) (rest : List Int) : (bestF l ts rest).length = l.lanes.length ∧ (bestF l ts rest).flatten.Perm (rest.take (manyF l ts rest)) := by
  have hs := many_spec l ts rest
  unfold bestF
  generalize manyF l ts rest = m at *
  cases m with
  | zero => simp [bestN]
  | succ k =>
    obtain ⟨P, hP⟩ := Option.isSome_iff_exists.1 (hs.2 k (by omega))
    have e : bestN l ts rest (k + 1) = (tryL l ts rest (k + 1)).getD [] := rfl
    rw [e, hP]
    have h := packL_flat hP
    exact ⟨h.1, h.2.trans (srtL_perm _)⟩
theorem fill_perm (ts : List Th) : ∀ (ls : List Lo) (rest : List Int), ((fillP ts ls rest).flatten.flatten ++ fillR ts ls rest).Perm rest
  | [], rest => by simp [fillP, fillR]
  | l :: ls, rest => by
    rw [fillP, fillR, List.flatten_cons, List.flatten_append, List.append_assoc]
    have ih := fill_perm ts ls (rest.drop (manyF l ts rest))
    have h := (best_flat l ts rest).2.append ih
    rw [List.take_append_drop] at h
    exact h
theorem fill_lanes (ts : List Th) : ∀ (ls : List Lo) (rest : List Int) (i : Nat), i < ls.length → ((fillP ts ls rest).getD i []).length = ((ls.getD i ⟨[], 0, 0, 0, 0, 0, 0⟩).lanes).length
  | [], _, i, h => by simp at h
  | l :: ls, rest, 0, _ => by
    rw [fillP]
    exact (best_flat l ts rest).1
  | l :: ls, rest, i + 1, h => by
    rw [fillP]
    have ih := fill_lanes ts ls (rest.drop (manyF l ts rest)) i (by simpa using h)
    simpa using ih
/-- no number of a later lorry is needed earlier -/
theorem fill_order (ts : List Th) : ∀ (ls : List Lo) (rest : List Int), rest.Pairwise (fun a b => nk ts a ≤ nk ts b) → (fillP ts ls rest).Pairwise (fun p q => ∀ x ∈ p.flatten, ∀ y ∈ q.flatten, nk ts x ≤ nk ts y)
  | [], _, _ => List.Pairwise.nil
  | l :: ls, rest, h => by
    rw [fillP]
    have hd : rest = rest.take (manyF l ts rest) ++ rest.drop (manyF l ts rest) := (List.take_append_drop _ _).symm
    rw [hd] at h
    obtain ⟨-, h2, h3⟩ := List.pairwise_append.1 h
    refine List.pairwise_cons.2 ⟨fun q hq x hx y hy => ?_, fill_order ts ls _ h2⟩
    have hx2 := (best_flat l ts rest).2.mem_iff.1 hx
    have hy2 := (fill_perm ts ls (rest.drop (manyF l ts rest))).mem_iff.1 (List.mem_append.2 (.inl (List.mem_flatten.2 (by
      obtain ⟨r, hr, hyr⟩ := List.mem_flatten.1 hy
      exact ⟨r, List.mem_flatten.2 ⟨q, hq, hr⟩, hyr⟩))))
    exact h3 x hx2 y hy2
theorem byNeed_sorted (ts : List Th) : (byNeed ts).Pairwise (fun a b => nk ts a ≤ nk ts b) :=
  (rank_spec (nk ts) ts.length).2.imp fun h => by unfold Before at h; omega
theorem byNeed_perm (ts : List Th) : (byNeed ts).Perm (upto ts.length) := (rank_spec (nk ts) ts.length).1
theorem byNeed_in (ts : List Th) : InR ts.length (byNeed ts) := fun _ hx => mem_upto.1 ((byNeed_perm ts).mem_iff.1 hx)
theorem byNeed_len (ts : List Th) : (byNeed ts).length = ts.length := rank_len _ _
theorem inr_sub {n : Nat} {a b : List Int} (h : InR n b) (hs : ∀ x ∈ a, x ∈ b) : InR n a := fun x hx => h x (hs x hx)
theorem inr_srt {n : Nat} {a : List Int} (h : InR n a) : InR n (srtL a) := fun x hx => h x ((srtL_perm a).mem_iff.1 hx)
/-! ### The document's list by need -/
def needL (ts : List Th) (k : Nat) : List Int := (List.range k).flatMap fun (nd : Nat) => (upto ts.length).filter fun x => nk ts x == (nd : Int)
def needI (ts : List Th) (nd i : Nat) : List Int := (upto i).filter fun x => nk ts x == (nd : Int)
theorem needL_succ (ts : List Th) (k : Nat) : needL ts (k + 1) = needL ts k ++ needI ts k ts.length := by
  unfold needL needI
  rw [List.range_succ, List.flatMap_append]
  simp
theorem needI_succ (ts : List Th) (nd i : Nat) : needI ts nd (i + 1) = needI ts nd i ++ (if nk ts (i : Int) = nd then [(i : Int)] else []) := by
  unfold needI
  rw [upto_succ, List.filter_append]
  congr 1
  by_cases h : nk ts (i : Int) = nd <;> simp [h]
theorem needL_sorted (ts : List Th) (k : Nat) : (needL ts k).Pairwise (Before (nk ts)) := by
  unfold needL
  rw [List.pairwise_flatMap]
  constructor
  · intro nd _
    have h1 : (upto ts.length).Pairwise (· < ·) := by
      unfold upto
      rw [List.pairwise_map]
      exact List.pairwise_lt_range.imp fun h => by simp; omega
    refine List.Pairwise.imp_of_mem ?_ (h1.filter _)
    intro a b ha hb hab
    have ha2 := (List.mem_filter.1 ha).2
    have hb2 := (List.mem_filter.1 hb).2
    rw [beq_iff_eq] at ha2 hb2
    exact .inr ⟨by omega, hab⟩
  · refine List.pairwise_lt_range.imp ?_
    intro a b hab x hx y hy
    have hx2 := (List.mem_filter.1 hx).2
    have hy2 := (List.mem_filter.1 hy).2
    rw [beq_iff_eq] at hx2 hy2
    exact .inl (by omega)
theorem needL_mem {ts : List Th} (hn : ∀ t ∈ ts, t.Ok) {x : Int} : x ∈ needL ts 1001 ↔ x ∈ upto ts.length := by
  unfold needL
  rw [List.mem_flatMap]
  constructor
  · rintro ⟨nd, -, h⟩
    exact (List.mem_filter.1 h).1
  · intro h
    have h1 := mem_upto.1 h
    have h2 := (hn _ (thAt_mem h1.1 h1.2)).need
    refine ⟨(nk ts x).toNat, List.mem_range.2 (by unfold nk; omega), List.mem_filter.2 ⟨h, ?_⟩⟩
    rw [beq_iff_eq]
    unfold nk
    omega
theorem before_nodup {key : Int → Int} {l : List Int} (h : l.Pairwise (Before key)) : l.Nodup := h.imp fun {a b} h => by
  intro e
  subst e
  unfold Before at h
  omega
theorem needL_eq {ts : List Th} (hn : ∀ t ∈ ts, t.Ok) : needL ts 1001 = byNeed ts := by
  have hp : (needL ts 1001).Perm (byNeed ts) := by
    refine (List.perm_ext_iff_of_nodup (before_nodup (needL_sorted ts 1001)) (rank_nodup _ _)).2 fun x => ?_
    rw [needL_mem hn]; exact (byNeed_perm ts).mem_iff.symm
  refine List.Perm.eq_of_pairwise (le := Before (nk ts)) ?_ (needL_sorted ts 1001) (rank_spec (nk ts) ts.length).2 hp
  intro a b _ _ h1 h2
  unfold Before at h1 h2
  omega
theorem needL_le (ts : List Th) : ∀ k, (needL ts k).length ≤ k * ts.length
  | 0 => by simp [needL]
  | k + 1 => by
    have h := needL_le ts k
    have h2 : (needI ts k ts.length).length ≤ ts.length := by
      have := List.length_filter_le (fun x => nk ts x == (k : Int)) (upto ts.length)
      rw [upto_len] at this
      exact this
    rw [needL_succ, List.length_append, Nat.add_mul]
    omega
/-! ### Sorting by insertion -/
theorem insert_srt (l : List Int) : sortL (fun a b => a - b) l = srtL l := by
  refine (srtL_eq (sortL_perm (fun a b => a - b) l).symm ?_).symm
  suffices h : ∀ n (l : List Int), l.length = n → (sortL (fun a b => a - b) l).Pairwise (fun a b => a ≤ b) from h _ l rfl
  intro n
  induction n with
  | zero => intro l hl; rw [List.length_eq_zero_iff.1 hl]; exact List.Pairwise.nil
  | succ n ih =>
    intro l hl
    obtain ⟨k, x, rfl⟩ : ∃ k x, l = k ++ [x] := by
      have hne : l ≠ [] := fun e => by rw [e] at hl; simp at hl
      exact ⟨l.dropLast, l.getLast hne, (List.dropLast_concat_getLast hne).symm⟩
    rw [List.length_append] at hl
    simp only [List.length_cons, List.length_nil] at hl
    have h1 := ih k (by omega)
    rw [sortL_snoc]
    unfold ins1
    rw [List.pairwise_reverse]
    have key : ∀ T : List Int, T.Pairwise (fun a b => b ≤ a) → (insR (fun s => decide (x - s < 0)) x T).Pairwise (fun a b => b ≤ a) := by
      intro T
      induction T with
      | nil => intro _; simp [insR]
      | cons s t iht =>
        intro hT
        have h2 := List.pairwise_cons.1 hT
        unfold insR
        by_cases hp : x - s < 0
        · rw [if_pos (by simpa using hp)]
          refine List.pairwise_cons.2 ⟨fun y hy => ?_, iht h2.2⟩
          rcases List.mem_cons.1 ((insR_perm _ x t).mem_iff.1 hy) with rfl | hy
          · omega
          · exact h2.1 y hy
        · rw [if_neg (by simpa using hp)]
          refine List.pairwise_cons.2 ⟨fun y hy => ?_, hT⟩
          rcases List.mem_cons.1 hy with rfl | hy
          · omega
          · have := h2.1 y hy; omega
    exact key _ (by rw [List.pairwise_reverse]; exact h1)
/-- what Fill returns -/
def fillRes (ls : List Lo) (ts : List Th) : List (List (List Int)) × Int :=
  if btw ls.length 1 6 && ls.all Lo.okB then (if cargoE ts 40 = 0 then (if fillR ts ls (byNeed ts) = [] then (fillP ts ls (byNeed ts), 0) else ([], 7)) else ([], cargoE ts 40)) else ([], 1)
end Go.Wg

/- How lorries, and the packings of a train, lie in memory. -/
namespace Go.Wg
open Go.RowKit Go.Bs Go.Pl
theorem cells_lt' {α : Type} {w : World} {A : Option Addr} {sz : Nat} {enc : α → List Value} {l : List α} (h : Cells w A sz enc l) (hen : ∀ x, (enc x).length = sz) (hsz : 0 < sz) (hl : l ≠ []) : ∀ b, A.map (·.block) = some b → b < w.heap.size := by
  intro b hb
  cases l with
  | nil => exact absurd rfl hl
  | cons x l =>
    obtain ⟨b', off, rfl, hcc⟩ := h 0 x rfl
    have hx : 0 < (enc x).length := by rw [hen]; exact hsz
    have := hcc 0 (enc x)[0] (List.getElem?_eq_getElem hx)
    simp at hb
    subst hb
    exact cell_lt this
theorem cells_drop {w : World} {b off : Nat} {l : List Int} (h : Cells w (some ⟨b, off, none⟩) 1 Go.Bs.encI l) (k : Nat) : Cells w (some ⟨b, off + k, none⟩) 1 Go.Bs.encI (l.drop k) := by
  intro i x hi
  rw [List.getElem?_drop] at hi
  obtain ⟨b', off', e, hcc⟩ := h (k + i) x hi
  cases e
  refine ⟨b, off + k, rfl, fun j u hj => ?_⟩
  have := hcc j u hj
  rwa [show off + ((k + i) * 1 + j) = off + k + (i * 1 + j) by omega] at this
theorem cells_take {α : Type} {w : World} {A : Option Addr} {sz : Nat} {enc : α → List Value} {l : List α} (h : Cells w A sz enc l) (k : Nat) : Cells w A sz enc (l.take k) := by
  intro i x hi
  refine h i x ?_
  rw [List.getElem?_take] at hi
  split at hi
  · exact hi
  · cases hi
/-- lorries -/
structure LsM (w : World) (A : Option Addr) (ls : List LoV) : Prop where
  hdr : Cells w A 7 LoV.enc ls
  row : ∀ x ∈ ls, Cells w x.A 1 Go.Bs.encI x.l.lanes
theorem LsM.ext {w w' : World} {A : Option Addr} {ls : List LoV} (h : LsM w A ls) (hb : Below w.heap.size w w') : LsM w' A ls := ⟨h.hdr.ext hb, fun x hx => (h.row x hx).ext hb⟩
/-- lanes that lie apart from the row of their lorries -/
structure LsJ (w : World) (v : Value) (ls : List LoV) : Prop where
  row : ∀ x ∈ ls, Cells w x.A 1 Go.Bs.encI x.l.lanes
  out : ∀ x ∈ ls, x.l.lanes ≠ [] → ∀ b, x.A.map (·.block) = some b → v.ownBlock ≠ some b
theorem LsJ.nil (w : World) (v : Value) : LsJ w v [] := ⟨by simp, by simp⟩
theorem LsJ.ext {w w' : World} {v : Value} {ls : List LoV} (h : LsJ w v ls) (hb : Below w.heap.size w w') : LsJ w' v ls := ⟨fun x hx => (h.row x hx).ext hb, h.out⟩
theorem LsJ.add {w : World} {v : Value} {ls : List LoV} {x : LoV} (h : LsJ w v ls) (h1 : Cells w x.A 1 Go.Bs.encI x.l.lanes) (h2 : ∀ b, x.A.map (·.block) = some b → v.ownBlock ≠ some b) : LsJ w v (ls ++ [x]) := by
  refine ⟨fun y hy => ?_, fun y hy => ?_⟩ <;> rcases List.mem_append.1 hy with g | g
  · exact h.row y g
  · rw [List.mem_singleton.1 g]; exact h1
  · exact h.out y g
  · rw [List.mem_singleton.1 g]; exact fun _ => h2
theorem bel_of_grown {w w' : World} {v : Value} (hg : w.grownBy w' v.ownBlock) : Dr.Bel v.ownBlock.toList w w' :=
  ⟨hg.os, hg.tape, hg.output, hg.size, fun k hk hm => hg.block k hk (fun e => hm (by simp; exact e.symm))⟩
theorem cells_grown {α : Type} {w w' : World} {v : Value} {A : Option Addr} {sz : Nat} {enc : α → List Value} {l : List α} (h : Cells w A sz enc l) (hg : w.grownBy w' v.ownBlock) (ho : l ≠ [] → ∀ b, A.map (·.block) = some b → v.ownBlock ≠ some b) : Cells w' A sz enc l := by
  by_cases hl : l = []
  · subst hl; exact Cells.nil
  · exact Dr.cells_bel h (bel_of_grown hg) (fun b e => by have := ho hl b e; simpa using this)
theorem own_ne {w : World} {v : Value} {b g : Nat} (h1 : v.ownBlock ≠ some b) (h2 : b < w.heap.size) (hat : v.ownBlock = some g ∨ g = w.heap.size) (n c : Nat) : (Value.slice (some ⟨g, 0, none⟩) n c).ownBlock ≠ some b := by
  show some g ≠ some b
  rcases hat with e2 | e2
  · rw [← e2]; exact h1
  · intro e3
    have := Option.some.inj e3
    omega
theorem LsJ.grown {w w' : World} {v : Value} {ls : List LoV} {g n c : Nat} (h : LsJ w v ls) (hg : w.grownBy w' v.ownBlock) (hat : v.ownBlock = some g ∨ g = w.heap.size) : LsJ w' (.slice (some ⟨g, 0, none⟩) n c) ls :=
  ⟨fun x hx => cells_grown (h.row x hx) hg (h.out x hx), fun x hx hne b e => own_ne (h.out x hx hne b e) (cells_lt' (h.row x hx) Go.Bs.encI_len (by decide) hne b e) hat n c⟩
/-- a packing, and where it lies -/
structure PkV where
  rs : List RwV
  A : Option Addr
  c : Nat
def PkV.enc (x : PkV) : List Value := [.slice x.A x.rs.length x.c]
theorem pkv_len (x : PkV) : (PkV.enc x).length = 1 := rfl
theorem pkv_one (x : PkV) : ∀ u ∈ PkV.enc x, u.oneCell' = true := by intro u hu; simp [PkV.enc] at hu; rw [hu]; rfl
def pks (ps : List PkV) : List (List (List Int)) := ps.map fun x => rows x.rs
theorem pks_len (ps : List PkV) : (pks ps).length = ps.length := by simp [pks]
structure PkM (w : World) (A : Option Addr) (ps : List PkV) : Prop where
  hdr : Cells w A 1 PkV.enc ps
  row : ∀ x ∈ ps, RwM w x.A x.rs
theorem PkM.ext {w w' : World} {A : Option Addr} {ps : List PkV} (h : PkM w A ps) (hb : Below w.heap.size w w') : PkM w' A ps := ⟨h.hdr.ext hb, fun x hx => (h.row x hx).ext hb⟩
structure PkJ (w : World) (v : Value) (ps : List PkV) : Prop where
  row : ∀ x ∈ ps, RwM w x.A x.rs
  out : ∀ x ∈ ps, (x.rs ≠ [] → ∀ b, x.A.map (·.block) = some b → v.ownBlock ≠ some b) ∧ ∀ y ∈ x.rs, y.r ≠ [] → ∀ b, y.A.map (·.block) = some b → v.ownBlock ≠ some b
theorem PkJ.nil (w : World) (v : Value) : PkJ w v [] := ⟨by simp, by simp⟩
theorem PkJ.ext {w w' : World} {v : Value} {ps : List PkV} (h : PkJ w v ps) (hb : Below w.heap.size w w') : PkJ w' v ps := ⟨fun x hx => (h.row x hx).ext hb, h.out⟩
theorem PkJ.add {w : World} {v : Value} {ps : List PkV} {rs : List RwV} {A : Option Addr} {c lo : Nat} (h : PkJ w v ps) (hM : RwM w A rs) (hN : RwN lo A rs) (hlo : ∀ b, v.ownBlock = some b → b < lo) : PkJ w v (ps ++ [⟨rs, A, c⟩]) := by
  refine ⟨fun y hy => ?_, fun y hy => ?_⟩ <;> rcases List.mem_append.1 hy with g | g
  · exact h.row y g
  · rw [List.mem_singleton.1 g]; exact hM
  · exact h.out y g
  · rw [List.mem_singleton.1 g]
    exact ⟨fun _ b e1 e2 => by have := hlo b e2; have := hN.1 b e1; omega, fun z hz _ b e1 e2 => by have := hlo b e2; have := hN.2 z hz b e1; omega⟩
theorem PkJ.grown {w w' : World} {v : Value} {ps : List PkV} {g n c : Nat} (h : PkJ w v ps) (hg : w.grownBy w' v.ownBlock) (hat : v.ownBlock = some g ∨ g = w.heap.size) : PkJ w' (.slice (some ⟨g, 0, none⟩) n c) ps :=
  ⟨fun x hx => ⟨cells_grown (h.row x hx).hdr hg (h.out x hx).1, fun y hy => cells_grown ((h.row x hx).row y hy) hg ((h.out x hx).2 y hy), (h.row x hx).cap⟩,
   fun x hx => ⟨fun hne b e => own_ne ((h.out x hx).1 hne b e) (cells_lt' (h.row x hx).hdr rwv_len (by decide) hne b e) hat n c, fun y hy hne b e => own_ne ((h.out x hx).2 y hy hne b e) (cells_lt' ((h.row x hx).row y hy) Go.Bs.encI_len (by decide) hne b e) hat n c⟩⟩
/-- what Fill leaves: the packings of a train, in some memory -/
def PksV (w' : World) (v : Value) (P : List (List (List Int))) : Prop := ∃ A c ps, v = .slice A ps.length c ∧ pks ps = P ∧ PkM w' A ps
theorem PksV.nil (w' : World) : PksV w' (.slice none 0 0) [] := ⟨none, 0, [], rfl, rfl, ⟨Cells.nil, by simp⟩⟩
end Go.Wg
namespace Go.Proofs.Ytbpmfaibcibleaa
open Go.RowKit Go.Bs Go.Wg Go.Pl Go.Sort
theorem info41 : (Try.prog.info? 41).map (fun i => (i.zero, i.size, i.bytes)) = some (some (.slice none 0 0), 1, 24) := by kernel_rfl
theorem etP89 : ElemT Try.prog 89 41 1 24 := ElemT.mk Try.underlying89 info41 rfl
theorem info44 : (Try.prog.info? 44).map (fun i => (i.zero, i.size, i.bytes)) = some (some (.agg #[.slice none 0 0, .int .i64 0, .int .i64 0, .int .i64 0, .int .i64 0, .int .i64 0, .int .i64 0]), 7, 72) := by kernel_rfl
theorem etL92 : ElemT Try.prog 92 44 7 72 := ElemT.mk Try.underlying92 info44 rfl
end Go.Proofs.Ytbpmfaibcibleaa

/- A region that draws its order, by what it keeps: each operation is shown once, in whatever order they come. Copies of rows. -/
import Derived.Test.YtcnidhcdkbfpcaaTooA
namespace Go.Dr
open Go.RowKit Go.Sort Go.Pl
variable {P : Program} {Q : Exit → Act → World → Prop} {md : Region.Mode} {ops : Array Oper} {n : Nat} {M : List Nat}
def cnt (n : Nat) (listed : Array Bool) : Nat := ((List.range n).filter fun i => !listed.getD i true).length
def full (n m : Nat) : Array Bool := (Array.replicate n true) ++ (Array.replicate m false)
def ordOk (ops : Array Oper) : Bool := (List.range ops.size).all fun j => match ops[j]? with | some o => o.after.all (fun e => decide (e.on < j)) | none => true
def qset (m : Nat) (is : List Nat) : Array Bool := is.foldl (fun l i => l.setIfInBounds i true) (Array.replicate m false)
def depsOf (o : Oper) : List Nat := (o.after.toList.filter fun e => Region.binds .any e).map (·.on)
theorem cnt_set {listed : Array Bool} {i : Nat} (hi : i < n) (hu : listed.getD i true = false) : cnt n (listed.setIfInBounds i true) + 1 = cnt n listed := by
  unfold cnt
  have hsz : i < listed.size := by
    rcases Nat.lt_or_ge i listed.size with h | h
    · exact h
    · simp [Array.getElem?_eq_none h] at hu
  induction n with
  | zero => omega
  | succ n ih =>
    rw [List.range_succ, List.filter_append, List.filter_append, List.length_append, List.length_append]
    by_cases h : i = n
    · subst h
      have e1 : ((List.range i).filter fun j => !(listed.setIfInBounds i true).getD j true) = (List.range i).filter fun j => !listed.getD j true := by
        refine List.filter_congr fun j hj => ?_
        rw [getD_set_ne true (by have := List.mem_range.1 hj; omega)]
      rw [e1]
      have e2 : (listed.setIfInBounds i true).getD i true = true := by simp [hsz]
      simp only [List.filter_cons, List.filter_nil, e2, hu, Bool.not_true, Bool.not_false]
      simp
    · have := ih (by omega)
      have e2 : (listed.setIfInBounds i true).getD n true = listed.getD n true := getD_set_ne true h
      simp only [List.filter_cons, List.filter_nil, e2]
      omega
theorem cnt_zero {listed : Array Bool} (h : cnt n listed = 0) : ∀ i, i < n → listed.getD i true = true := by
  intro i hi
  unfold cnt at h
  rw [List.length_eq_zero_iff, List.filter_eq_nil_iff] at h
  have := h i (List.mem_range.2 hi)
  simpa using this
theorem cnt_pos {listed : Array Bool} {f : Nat} (h : cnt n listed = f + 1) : ∃ i, i < n ∧ listed.getD i true = false ∧ ∀ j, j < i → listed.getD j true = true := by
  have hne : ∃ i, i < n ∧ listed.getD i true = false := by
    unfold cnt at h
    cases hl : (List.range n).filter fun i => !listed.getD i true with
    | nil => rw [hl] at h; simp at h
    | cons x r =>
      have hx : x ∈ (List.range n).filter fun i => !listed.getD i true := by rw [hl]; simp
      rw [List.mem_filter] at hx
      exact ⟨x, List.mem_range.1 hx.1, by simpa using hx.2⟩
  obtain ⟨i, hi, hu⟩ := hne
  induction i using Nat.strongRecOn with
  | _ i ih =>
    by_cases hex : ∃ j, j < i ∧ listed.getD j true = false
    · obtain ⟨j, hj, hju⟩ := hex
      exact ih j hj (by omega) hju
    · refine ⟨i, hi, hu, fun j hj => ?_⟩
      cases hb : listed.getD j true with
      | true => rfl
      | false => exact absurd ⟨j, hj, hb⟩ hex
theorem getD_tt {listed : Array Bool} {i : Nat} (hi : i < listed.size) (h : listed.getD i true = true) : listed.getD i false = true := by
  simp [hi] at h ⊢; exact h
theorem full_of {listed : Array Bool} {m : Nat} (inv : HeadInv md ops n listed) (hm : ops.size = n + m) (h : ∀ i, i < n → listed.getD i true = true) : listed = full n m := by
  have hs := inv.size
  unfold full
  apply Array.ext
  · simp [hs, hm]
  · intro i h1 h2
    by_cases hi : i < n
    · have := h i hi
      simp [h1] at this
      rw [this, Array.getElem_append_left (by simpa using hi)]
      simp
    · have := inv.tail i (by omega) (by omega)
      simp [h1] at this
      rw [this, Array.getElem_append_right (by simp; omega)]
      simp
theorem wpX_inv {L : Array Bool → Act → World → Prop} (J : Array Bool → Act → World → Prop) {m : Nat} (hm : ops.size = n + m) (hord : ordOk ops = true)
    (htail : ∀ i, i < n → ∀ listed, HeadInv md ops n listed → listed.getD i true = false → ∀ j ∈ Region.ready md ops listed, j < n)
    (hstep : ∀ listed a w i, i < n → i ∈ Region.ready md ops listed → J listed a w → wpOp P ops Q i (fun a' w' => Bel M w w' ∧ J (listed.setIfInBounds i true) a' w') a w)
    (hend : ∀ a w, J (full n m) a w → L (full n m) a w) :
    ∀ (f : Nat) (listed : Array Bool) (a : Act) (w : World), HeadInv md ops n listed → cnt n listed = f → J listed a w → wpX P md ops Q n M L f listed a w
  | 0, listed, a, w, inv, hc, hJ => by
    have := full_of inv hm (cnt_zero hc)
    subst this
    exact hend _ _ hJ
  | f + 1, listed, a, w, inv, hc, hJ => by
    obtain ⟨i, hi, hu, hlow⟩ := cnt_pos hc
    have hil : i < ops.size := by omega
    refine ⟨fun h0 => ?_, fun j hj => ?_⟩
    · have hr : i ∈ Region.ready md ops listed := by
        rw [mem_ready]
        refine ⟨hu, ops[i], by simp [hil], fun e he _ => ?_⟩
        have h1 := List.all_eq_true.1 hord i (List.mem_range.2 hil)
        simp only [Array.getElem?_eq_getElem hil] at h1
        have h2 := of_decide_eq_true (Array.all_eq_true'.1 h1 e he)
        exact getD_tt (by rw [inv.size]; omega) (hlow _ h2)
      rw [h0] at hr; cases hr
    · have hjn := htail i hi listed inv hu j hj
      refine ⟨hjn, wpOp_mono (fun a' w' h' => ⟨h'.1, ?_⟩) (hstep listed a w j hjn hj hJ)⟩
      have hju := (mem_ready.1 hj).1
      exact wpX_inv J hm hord htail hstep hend f _ a' w' (inv.set hj hjn) (by have := cnt_set hjn hju; omega) h'.2
/-- what is asked once a region -/
def invB (ops : Array Oper) (n : Nat) (is rs : List Nat) : Bool :=
  Region.noSelect ops && (decide (n = ops.size) || (decide (n < ops.size) && Region.sinkB .any ops n && Region.chainB .any ops n)) && ordOk ops &&
    qok .any ops n is n (Array.replicate ops.size false) (fun f listed => decide (listed = qset ops.size is) && decide (cnt n listed = f)) && Region.seqB .any ops (ops.size - n) n (full n (ops.size - n)) &&
    (List.range n).all (fun i => (qset ops.size is).getD i false || rs.contains i) && rs.all (fun i => match ops[i]? with | some o => o.guard.isNone | none => false)
/-- **A region that draws its order keeps J**, whatever comes first. -/
theorem wp_region_inv {id : Nat} {a : Act} {w : World} {l : List Oper} (n : Nat) (M : List Nat) (is rs : List Nat) (J : (Nat → Bool) → Act → World → Prop) (hm : P.follows .mixedOrders = true) (hB : invB l.toArray n is rs = true)
    (hq : ∀ K : Act → Prop, (∀ a', J (fun j => (qset l.toArray.size is).getD j false) a' w.drew → K a') → wpQuiet P l.toArray (Cls M w.drew) K (is.filterMap (nth l)) a)
    (hstep : ∀ i ∈ rs, ∀ o, nth l i = some o → ∀ (D : Nat → Bool) a w, D i = false → (∀ k ∈ depsOf o, D k = true) → J D a w → ∀ K : Act → World → Prop, (∀ a' w', Bel M w w' → J (fun j => if j = i then true else D j) a' w' → K a' w') → o.wp P a w K (Calm Q))
    (hend : ∀ a w, J (fun j => decide (j < n)) a w → wpList P l.toArray Q (l.drop n) a w) : (Code.region id l.toArray true).wp P Q a w := by
  simp only [invB, Bool.and_eq_true, Bool.or_eq_true, decide_eq_true_eq] at hB
  obtain ⟨⟨⟨⟨⟨⟨hsel, hn⟩, hord⟩, hqok⟩, hseq⟩, hrs⟩, hg⟩ := hB
  have hle : n ≤ l.toArray.size := by rcases hn with h1 | h1 <;> omega
  have inv0 : HeadInv .any l.toArray n (Array.replicate l.toArray.size false) :=
    ⟨by simp, fun j oj _ hl => (by rw [getD_replicate_false] at hl; cases hl), fun t _ ht => getD_in (by simpa using ht) (getD_replicate_false _ _)⟩
  have htail : ∀ i, i < n → ∀ listed, HeadInv .any l.toArray n listed → listed.getD i true = false → ∀ j ∈ Region.ready .any l.toArray listed, j < n := by
    intro i hin listed inv hun j hj
    rcases hn with h1 | ⟨⟨h1, hs⟩, hc⟩
    · have := (mem_ready.1 hj).2.choose_spec.1
      have hlt : j < l.toArray.size := (Array.getElem?_eq_some_iff.1 this).1
      omega
    · rcases Nat.lt_or_ge j n with h2 | h2
      · exact h2
      · exact absurd hj (tail_waits hs hc h1 inv _ i rfl hin hun j h2)
  have H : wpX P .any l.toArray (Calm Q) n M (fun listed a w => Region.seqB .any l.toArray (l.toArray.size - n) n listed = true ∧ wpList P l.toArray Q (l.toArray.toList.drop n) a w) n (Array.replicate l.toArray.size false) a w.drew := by
    refine qok_sound (md := .any) hsel (fun _ _ _ _ _ hp => hp) htail (fun _ _ _ hL => seqB_ready hL.1) _ (fun a' => J (fun j => (qset l.toArray.size is).getD j false) a' w.drew) ?_ is n _ a inv0 hqok ?_
    · intro f listed a' inv hk hJ
      simp only [Bool.and_eq_true, decide_eq_true_eq] at hk
      obtain ⟨hk1, hk2⟩ := hk
      refine wpX_inv (fun listed a w => (∀ j, (qset l.toArray.size is).getD j false = true → listed.getD j false = true) ∧ listed.size = l.toArray.size ∧ J (fun j => listed.getD j false) a w) (m := l.toArray.size - n) (by omega) hord htail ?_ ?_ f listed a' _ inv hk2 ⟨fun j h => by rw [hk1]; exact h, inv.size, by rw [hk1]; exact hJ⟩
      · intro listed a w i hin hr ⟨h1, h2, h3⟩
        obtain ⟨hu, o, ho, hall⟩ := mem_ready.1 hr
        have hir : i ∈ rs := by
          have := List.all_eq_true.1 hrs i (List.mem_range.2 hin)
          rw [Bool.or_eq_true] at this
          rcases this with h4 | h4
          · have := h1 i h4
            rw [getD_both hu] at this
            cases this
          · simpa using h4
        have hgo := List.all_eq_true.1 hg i hir
        simp only [ho] at hgo
        have hno : o.guard = none := by simpa using hgo
        have hw : Region.wanted o (yielded l.toArray a.tmps) = true := by unfold Region.wanted; rw [hno]
        have hlt : i < listed.size := by rw [h2]; omega
        unfold wpOp
        simp only [ho, if_pos hw]
        refine .inl (hstep i hir o (by rw [← nth_eq]; exact ho) (fun j => listed.getD j false) a w (getD_both hu) (fun k hk => ?_) h3 _ (fun a' w' hb hJ' => ⟨hb, fun j hj => ?_, by simp [h2], ?_⟩))
        · unfold depsOf at hk
          obtain ⟨e, he, rfl⟩ := List.mem_map.1 hk
          rw [List.mem_filter] at he
          exact hall e (by simpa using he.1) he.2
        · exact getD_set_true (h1 j hj)
        · have e1 : (fun j => (listed.setIfInBounds i true).getD j false) = fun j => if j = i then true else listed.getD j false := by
            funext j
            by_cases hji : j = i
            · subst hji; simp [hlt]
            · rw [if_neg hji, getD_set_ne false (Ne.symm hji)]
          rw [e1]; exact hJ'
      · rintro a w ⟨-, -, h3⟩
        refine ⟨hseq, ?_⟩
        have e1 : (fun j => (full n (l.toArray.size - n)).getD j false) = fun j => decide (j < n) := by
          funext j
          unfold full
          by_cases hj : j < n
          · simp [Array.getElem?_append, hj]
          · have h9 := getD_replicate_false (l.length - n) (j - n)
            simp [Array.getElem?_append, hj]
            simpa using h9
        rw [e1] at h3
        simpa using hend a w h3
    · rw [show (fun i => l.toArray[i]?) = nth l from funext (nth_eq l)]
      exact hq _ (fun _ h => h)
  refine wp_region_any hm ?_
  have h3 := wpAny_of_X (P := P) (Q := Calm Q) (Q' := Q) Calm.imp (g := l.toArray.size - n) (fun listed a' w' hL => by
    have h2 := wpAny_of_seq (P := P) (ops := l.toArray) (md := .any) (Q' := Q) (l.drop n) n listed a' w' (fun j => by simp [List.getElem?_drop]) (by rw [show (l.drop n).length = l.toArray.size - n by simp]; exact hL.1) (by simpa using hL.2)
    rwa [show (l.drop n).length = l.toArray.size - n by simp] at h2) _ _ _ _ H
  rw [show n + (l.toArray.size - n) = l.toArray.size by omega] at h3
  exact h3
end Go.Dr

namespace Go.Bs
open Go.RowKit Go.Sort Go.Pl
section
variable {P : Program} {α : Type}
theorem flat_len {enc : α → List Value} {sz : Nat} (hen : ∀ x, (enc x).length = sz) : ∀ l : List α, (l.flatMap enc).length = l.length * sz
  | [] => by simp
  | x :: l => by rw [List.flatMap_cons, List.length_append, flat_len hen l, hen, List.length_cons, Nat.add_mul]; omega
theorem cells_src {w : World} {enc : α → List Value} {sz : Nat} (hen : ∀ x, (enc x).length = sz) (hsz : 0 < sz) {b : Nat} {off : Nat} {l : List α} (h : Cells w (some ⟨b, off, none⟩) sz enc l) :
    ∀ j u, (l.flatMap enc)[j]? = some u → w.cell? ((⟨b, off, none⟩ : Addr).add j) = some u := by
  intro j u hj
  have hjl : j < l.length * sz := by rw [← flat_len hen]; exact (List.getElem?_eq_some_iff.1 hj).1
  have hq : j / sz < l.length := Nat.div_lt_of_lt_mul (by rw [Nat.mul_comm]; exact hjl)
  have hr := Nat.mod_lt j hsz
  have hdm := Nat.div_add_mod j sz
  obtain ⟨b', off', e, hcc⟩ := h (j / sz) l[j / sz] (by simp [hq])
  cases e
  have hy : j % sz < (enc l[j / sz]).length := by rw [hen]; exact hr
  have h1 := flatMap_get hen l (j / sz) (j % sz) l[j / sz] (enc l[j / sz])[j % sz] (by simp [hq]) (by simp [hy])
  rw [Nat.mul_comm, hdm, hj] at h1
  have h2 := hcc (j % sz) (enc l[j / sz])[j % sz] (by simp [hy])
  rw [← Option.some.inj h1, Nat.mul_comm, hdm] at h2
  unfold Addr.add
  split
  · rename_i h0; subst h0; simpa using h2
  · simpa using h2
/-- append(append([]T{}), l...): a copy, in a row of its own. -/
theorem wp_copy {o : Oper} {a : Act} {K : Act → World → Prop} {Q : Exit → Act → World → Prop} {w : World} (enc : α → List Value) (t e : TypeId) (sz bytes : Nat) (hT : ElemT P t e sz bytes) (hsz : 0 < sz) (hby : bytes ≤ 1000)
    (hen : ∀ x, (enc x).length = sz) (s x : Operand) (ho : o.op = .call { callee := .builtin .append, args := #[s, x], argTypes := #[t, t] }) (base g : Nat) (hs : a.eval s = .slice (some ⟨g, 0, none⟩) 0 0) (hg : Blk w g e []) (hbg : base ≤ g)
    (X : Option Addr) (m c : Nat) (l : List α) (hx : a.eval x = .slice X m c) (hl : l.length = m) (hc : Cells w X sz enc l) (hm : m ≤ 1000000) (hbase : base ≤ w.heap.size)
    (h : ∀ g' cap w', OwnL w' base e sz enc (.slice (some ⟨g', 0, none⟩) m cap) l → Below w.heap.size w w' → K (a.put o.dst (.slice (some ⟨g', 0, none⟩) m cap)) w') : o.wp P a w K Q := by
  obtain ⟨i, z, ht, hi, hz, hs1, hb1, hz1⟩ := hT
  cases m with
  | zero =>
    have hl2 : l = [] := List.length_eq_zero_iff.1 hl
    subst hl2
    have hrun := run_app_zero (P := P) (w := w) ht hi o.type (some ⟨g, 0, none⟩) X 0 0 c (Nat.le_refl _)
    unfold Oper.wp
    simp [execOp, ho, resolve, invoke, builtin, hs, hx, hrun, Result.andThen]
    exact h g 0 w ⟨by simp, .inr ⟨g, 0, #[], rfl, hbg, hg, Nat.le_refl _, by unfold maxLen; omega, by simp, by simp⟩⟩ (Below.refl _ _)
  | succ m =>
    obtain ⟨b, off, rfl, -⟩ := hc.at (k := 0) (by omega)
    have hfl : (l.flatMap enc).length = (m + 1) * i.size := by rw [flat_len hen, hl, hs1]
    have hmul : (m + 1) * bytes ≤ 1000001 * 1000 := Nat.mul_le_mul (by omega) hby
    have hr := run_append_grow (P := P) (w := w) t o.type e i z ht hi hz ⟨g, 0, none⟩ 0 0 [] (by simp) (fun j u hj => by simp at hj) ⟨b, off, none⟩ (m + 1) c (l.flatMap enc) hfl (cells_src hen hsz hc) (by omega) (by omega) (growslice_fits (by omega) (by rw [hb1, Nat.zero_add]; omega))
    simp only [Nat.zero_add] at hr
    have hge := grownCap_ge w (m + 1) 0 e
    have hcm : grownCap w (m + 1) 0 e ≤ maxLen := grownCap_le_maxLen w (m + 1) 0 e (by unfold maxLen; omega)
    unfold Oper.wp
    simp [execOp, ho, resolve, invoke, builtin, hs, hx, hr, Result.andThen]
    refine h w.heap.size _ _ ⟨by rw [flat_len hen], .inr ⟨w.heap.size, _, _, by rw [hl], hbase, heap_alloc_new w.drew _, by rw [hl]; exact hge, hcm, ?_, ?_⟩⟩ ⟨rfl, rfl, rfl, by simp, fun k hk => _root_.Go.heap_alloc_old w.drew _ k hk⟩
    · simp only [Array.size_append, List.size_toArray, size_zeroCells, hz1, hfl, hs1, List.length_nil, Nat.zero_add]
      rw [← Nat.add_mul]
      congr 1
      omega
    · rw [show l.length * sz = (l.flatMap enc).length by rw [flat_len hen]]
      simp only [Array.toList_append, List.append_assoc, List.nil_append]
      exact List.take_left
end
end Go.Bs

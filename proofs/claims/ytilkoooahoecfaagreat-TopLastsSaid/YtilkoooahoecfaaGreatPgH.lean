/- Walks: rows, the evening, wakes, Show. -/
import Derived.Test.YtilkoooahoecfaaGreatPgE
import Derived.Test.YtilkoooahoecfaaGreatTooA
/- Walk: copies and comparisons of rows; the show of the examples. -/
namespace Go.Bs
open Go.RowKit Go.Sort Go.Pl
theorem own_ne {α : Type} {w : World} {base : Nat} {e : TypeId} {sz : Nat} {enc : α → List Value} {v : Value} {l : List α} (h : OwnL w base e sz enc v l) {A T : Nat} {cs : List Value} (hb : Blk w A T cs) (hT : T ≠ e) : A ∉ v.ownBlock.toList := by
  rcases h.2 with ⟨rfl, -⟩ | ⟨g, cap, cur, rfl, -, hg, -⟩
  · simp [Value.ownBlock]
  · simp only [Value.ownBlock, Option.toList, List.mem_singleton]
    rintro rfl
    unfold Blk at hb
    rw [hg] at hb
    simp only [Option.some.injEq, Obj.cells.injEq] at hb
    exact hT hb.2.1.symm
end Go.Bs
namespace Go.Proofs.YtilkoooahoecfaaGreat
open Go.RowKit Go.Bs Go.Pg Go.Pl Go.Sort
theorem cells_new {α : Type} (w : World) (T : TypeId) (sz : Nat) (enc : α → List Value) (hen : ∀ x, (enc x).length = sz) (l : List α) : Cells (w.alloc (.cells (l.flatMap enc).toArray T)) (some ⟨w.heap.size, 0, none⟩) sz enc l := fun i x hi =>
  ⟨w.heap.size, 0, rfl, fun j y hj => by
    have h := flatMap_get hen l i j x y hi hj
    have := (Blk.new w T (l.flatMap enc)).cell h
    simpa using this⟩

/-- the show of the examples -/
def evS : Sh := ⟨[⟨10, 40, 1, [1], false⟩, ⟨8, 60, 2, [6, 10], false⟩, ⟨12, 50, 1, [9], true⟩], [1, 0, 0, 0], [3, 5], [2, 4], 9, 1, []⟩
theorem cells_of {α : Type} {w : World} {B T sz : Nat} {enc : α → List Value} {l : List α} {cs : List Value} (hen : ∀ x, (enc x).length = sz) (h : Blk w B T cs) (hcs : cs = l.flatMap enc) : Cells w (some ⟨B, 0, none⟩) sz enc l := fun i x hi =>
  ⟨B, 0, rfl, fun j y hj => by
    have h2 := flatMap_get hen l i j x y hi hj
    rw [← hcs] at h2
    have := h.cell h2
    simpa using this⟩
end Go.Proofs.YtilkoooahoecfaaGreat

/- Walk: wakes(). -/
namespace Go.Proofs.YtilkoooahoecfaaGreat
open Go.RowKit Go.Bs Go.Pg Go.Pl Go.Sort
theorem ev_ok : evS.okB = true := by decide +kernel
theorem ev_solve : evS.solve = some [0, 1, 2] := by decide +kernel
theorem ev_least : evS.least = 24 := by decide +kernel
theorem ev_chg : chgE evS 1 2 = 0 ∧ evS.chM 1 2 = 7 ∧ evS.chC 1 2 = 17 := by decide +kernel
theorem ev_ask : askE evS [0, 2, 1] = 0 := by decide +kernel
theorem ev_fault : evS.fault [0, 2, 1] = (1, 2) := by decide +kernel
theorem ev_right : rightE evS [0, 1, 2] = 0 := by decide +kernel
theorem ev_sheet : evS.sheet [0, 1, 2] = ([0, 17, 32], 44) := by decide +kernel
theorem ev_chgR {e : Ending} (h : ChgR evS 1 2 e) : e = .returned (.tuple #[.int .i64 7, .int .i64 17, .int .i64 0]) := by
  obtain ⟨x, y, z, rfl, h1, -, h3⟩ := h
  rw [ev_chg.1] at h1
  obtain ⟨h4, h5⟩ := h3 h1
  subst h1
  rw [h4, h5]
  show Ending.returned (.tuple #[.int .i64 (evS.chM 1 2), .int .i64 (evS.chC 1 2), _]) = _
  rw [ev_chg.2.1, ev_chg.2.2]
theorem ev_fltR {e : Ending} (h : FltR evS [0, 2, 1] e) : e = .returned (.tuple #[.int .i64 1, .int .u8 2, .int .i64 0]) := by
  obtain ⟨x, y, z, rfl, -, -, h3⟩ := h
  have hf : evS.fault ([0, 2, 1].map Int.toNat) = (1, 2) := ev_fault
  rw [hf] at h3
  obtain ⟨rfl, rfl, rfl⟩ := h3 ev_ask (by decide)
  rfl
theorem ev_shtR {w W : World} {e : Ending} (h : ShtR w evS [0, 1, 2] e W) : ∃ v, e = .returned (.tuple #[v, .int .i64 44, .int .i64 0]) ∧ FreshL w W 1 encI v [0, 17, 32] := by
  obtain ⟨v, x, z, rfl, h1, -, h3⟩ := h
  rw [ev_right] at h1
  obtain ⟨h4, h5⟩ := h3 h1
  have hs : evS.sheet ([0, 1, 2].map Int.toNat) = ([0, 17, 32], 44) := ev_sheet
  rw [hs] at h4 h5
  subst h1
  rw [h5]
  exact ⟨v, rfl, h4⟩
end Go.Proofs.YtilkoooahoecfaaGreat

/- A region that draws its order, by what it keeps: each operation is shown once, in whatever order they come. Copies of rows. -/
namespace Go.Dr
open Go.RowKit Go.Sort Go.Pl
variable {P : Program} {Q : Exit → Act → World → Prop} {md : Region.Mode} {ops : Array Oper} {n : Nat} {M : List Nat}
def cnt (n : Nat) (listed : Array Bool) : Nat := ((List.range n).filter fun i => !listed.getD i true).length
def full (n m : Nat) : Array Bool := (Array.replicate n true) ++ (Array.replicate m false)
def ordOk (ops : Array Oper) : Bool := (List.range ops.size).all fun j => match ops[j]? with | some o => o.after.all (fun e => decide (e.on < j)) | none => true
def qset (m : Nat) (is : List Nat) : Array Bool := is.foldl (fun l i => l.setIfInBounds i true) (Array.replicate m false)
def depsOf (o : Oper) : List Nat := (o.after.toList.filter fun e => Region.binds .any e).map (·.on)
theorem cnt_set {listed : Array Bool} {i : Nat} (hi : i < n) (hu : listed.getD i true = false) : cnt n (listed.setIfInBounds i true) + 1 = cnt n listed := by
  unfold cnt
  have hsz : i < listed.size := by
    rcases Nat.lt_or_ge i listed.size with h | h
    · exact h
    · simp [Array.getElem?_eq_none h] at hu
  induction n with
  | zero => omega
  | succ n ih =>
    rw [List.range_succ, List.filter_append, List.filter_append, List.length_append, List.length_append]
    by_cases h : i = n
    · subst h
      have e1 : ((List.range i).filter fun j => !(listed.setIfInBounds i true).getD j true) = (List.range i).filter fun j => !listed.getD j true := by
        refine List.filter_congr fun j hj => ?_
        rw [getD_set_ne true (by have := List.mem_range.1 hj; omega)]
      rw [e1]
      have e2 : (listed.setIfInBounds i true).getD i true = true := by simp [hsz]
      simp only [List.filter_cons, List.filter_nil, e2, hu, Bool.not_true, Bool.not_false]
      simp
    · have := ih (by omega)
      have e2 : (listed.setIfInBounds i true).getD n true = listed.getD n true := getD_set_ne true h
      simp only [List.filter_cons, List.filter_nil, e2]
      omega
theorem cnt_zero {listed : Array Bool} (h : cnt n listed = 0) : ∀ i, i < n → listed.getD i true = true := by
  intro i hi
  unfold cnt at h
  rw [List.length_eq_zero_iff, List.filter_eq_nil_iff] at h
  have := h i (List.mem_range.2 hi)
  simpa using this
theorem cnt_pos {listed : Array Bool} {f : Nat} (h : cnt n listed = f + 1) : ∃ i, i < n ∧ listed.getD i true = false ∧ ∀ j, j < i → listed.getD j true = true := by
  have hne : ∃ i, i < n ∧ listed.getD i true = false := by
    unfold cnt at h
    cases hl : (List.range n).filter fun i => !listed.getD i true with
    | nil => rw [hl] at h; simp at h
    | cons x r =>
      have hx : x ∈ (List.range n).filter fun i => !listed.getD i true := by rw [hl]; simp
      rw [List.mem_filter] at hx
      exact ⟨x, List.mem_range.1 hx.1, by simpa using hx.2⟩
  obtain ⟨i, hi, hu⟩ := hne
  induction i using Nat.strongRecOn with
  | _ i ih =>
    by_cases hex : ∃ j, j < i ∧ listed.getD j true = false
    · obtain ⟨j, hj, hju⟩ := hex
      exact ih j hj (by omega) hju
    · refine ⟨i, hi, hu, fun j hj => ?_⟩
      cases hb : listed.getD j true with
      | true => rfl
      | false => exact absurd ⟨j, hj, hb⟩ hex
theorem getD_tt {listed : Array Bool} {i : Nat} (hi : i < listed.size) (h : listed.getD i true = true) : listed.getD i false = true := by
  simp [hi] at h ⊢; exact h
theorem full_of {listed : Array Bool} {m : Nat} (inv : HeadInv md ops n listed) (hm : ops.size = n + m) (h : ∀ i, i < n → listed.getD i true = true) : listed = full n m := by
  have hs := inv.size
  unfold full
  apply Array.ext
  · simp [hs, hm]
  · intro i h1 h2
    by_cases hi : i < n
    · have := h i hi
      simp [h1] at this
      rw [this, Array.getElem_append_left (by simpa using hi)]
      simp
    · have := inv.tail i (by omega) (by omega)
      simp [h1] at this
      rw [this, Array.getElem_append_right (by simp; omega)]
      simp
theorem wpX_inv {L : Array Bool → Act → World → Prop} (J : Array Bool → Act → World → Prop) {m : Nat} (hm : ops.size = n + m) (hord : ordOk ops = true)
    (htail : ∀ i, i < n → ∀ listed, HeadInv md ops n listed → listed.getD i true = false → ∀ j ∈ Region.ready md ops listed, j < n)
    (hstep : ∀ listed a w i, i < n → i ∈ Region.ready md ops listed → J listed a w → wpOp P ops Q i (fun a' w' => Bel M w w' ∧ J (listed.setIfInBounds i true) a' w') a w)
    (hend : ∀ a w, J (full n m) a w → L (full n m) a w) :
    ∀ (f : Nat) (listed : Array Bool) (a : Act) (w : World), HeadInv md ops n listed → cnt n listed = f → J listed a w → wpX P md ops Q n M L f listed a w
  | 0, listed, a, w, inv, hc, hJ => by
    have := full_of inv hm (cnt_zero hc)
    subst this
    exact hend _ _ hJ
  | f + 1, listed, a, w, inv, hc, hJ => by
    obtain ⟨i, hi, hu, hlow⟩ := cnt_pos hc
    have hil : i < ops.size := by omega
    refine ⟨fun h0 => ?_, fun j hj => ?_⟩
    · have hr : i ∈ Region.ready md ops listed := by
        rw [mem_ready]
        refine ⟨hu, ops[i], by simp [hil], fun e he _ => ?_⟩
        have h1 := List.all_eq_true.1 hord i (List.mem_range.2 hil)
        simp only [Array.getElem?_eq_getElem hil] at h1
        have h2 := of_decide_eq_true (Array.all_eq_true'.1 h1 e he)
        exact getD_tt (by rw [inv.size]; omega) (hlow _ h2)
      rw [h0] at hr; cases hr
    · have hjn := htail i hi listed inv hu j hj
      refine ⟨hjn, wpOp_mono (fun a' w' h' => ⟨h'.1, ?_⟩) (hstep listed a w j hjn hj hJ)⟩
      have hju := (mem_ready.1 hj).1
      exact wpX_inv J hm hord htail hstep hend f _ a' w' (inv.set hj hjn) (by have := cnt_set hjn hju; omega) h'.2
/-- what is asked once a region -/
def invB (ops : Array Oper) (n : Nat) (is rs : List Nat) : Bool :=
  Region.noSelect ops && (decide (n = ops.size) || (decide (n < ops.size) && Region.sinkB .any ops n && Region.chainB .any ops n)) && ordOk ops &&
    qok .any ops n is n (Array.replicate ops.size false) (fun f listed => decide (listed = qset ops.size is) && decide (cnt n listed = f)) && Region.seqB .any ops (ops.size - n) n (full n (ops.size - n)) &&
    (List.range n).all (fun i => (qset ops.size is).getD i false || rs.contains i) && rs.all (fun i => match ops[i]? with | some o => o.guard.isNone | none => false)
/-- **A region that draws its order keeps J**, whatever comes first. -/
theorem wp_region_inv {id : Nat} {a : Act} {w : World} {l : List Oper} (n : Nat) (M : List Nat) (is rs : List Nat) (J : (Nat → Bool) → Act → World → Prop) (hm : P.follows .mixedOrders = true) (hB : invB l.toArray n is rs = true)
    (hq : ∀ K : Act → Prop, (∀ a', J (fun j => (qset l.toArray.size is).getD j false) a' w.drew → K a') → wpQuiet P l.toArray (Cls M w.drew) K (is.filterMap (nth l)) a)
    (hstep : ∀ i ∈ rs, ∀ o, nth l i = some o → ∀ (D : Nat → Bool) a w, D i = false → (∀ k ∈ depsOf o, D k = true) → J D a w → ∀ K : Act → World → Prop, (∀ a' w', Bel M w w' → J (fun j => if j = i then true else D j) a' w' → K a' w') → o.wp P a w K (Calm Q))
    (hend : ∀ a w, J (fun j => decide (j < n)) a w → wpList P l.toArray Q (l.drop n) a w) : (Code.region id l.toArray true).wp P Q a w := by
  simp only [invB, Bool.and_eq_true, Bool.or_eq_true, decide_eq_true_eq] at hB
  obtain ⟨⟨⟨⟨⟨⟨hsel, hn⟩, hord⟩, hqok⟩, hseq⟩, hrs⟩, hg⟩ := hB
  have hle : n ≤ l.toArray.size := by rcases hn with h1 | h1 <;> omega
  have inv0 : HeadInv .any l.toArray n (Array.replicate l.toArray.size false) :=
    ⟨by simp, fun j oj _ hl => (by rw [getD_replicate_false] at hl; cases hl), fun t _ ht => getD_in (by simpa using ht) (getD_replicate_false _ _)⟩
  have htail : ∀ i, i < n → ∀ listed, HeadInv .any l.toArray n listed → listed.getD i true = false → ∀ j ∈ Region.ready .any l.toArray listed, j < n := by
    intro i hin listed inv hun j hj
    rcases hn with h1 | ⟨⟨h1, hs⟩, hc⟩
    · have := (mem_ready.1 hj).2.choose_spec.1
      have hlt : j < l.toArray.size := (Array.getElem?_eq_some_iff.1 this).1
      omega
    · rcases Nat.lt_or_ge j n with h2 | h2
      · exact h2
      · exact absurd hj (tail_waits hs hc h1 inv _ i rfl hin hun j h2)
  have H : wpX P .any l.toArray (Calm Q) n M (fun listed a w => Region.seqB .any l.toArray (l.toArray.size - n) n listed = true ∧ wpList P l.toArray Q (l.toArray.toList.drop n) a w) n (Array.replicate l.toArray.size false) a w.drew := by
    refine qok_sound (md := .any) hsel (fun _ _ _ _ _ hp => hp) htail (fun _ _ _ hL => seqB_ready hL.1) _ (fun a' => J (fun j => (qset l.toArray.size is).getD j false) a' w.drew) ?_ is n _ a inv0 hqok ?_
    · intro f listed a' inv hk hJ
      simp only [Bool.and_eq_true, decide_eq_true_eq] at hk
      obtain ⟨hk1, hk2⟩ := hk
      refine wpX_inv (fun listed a w => (∀ j, (qset l.toArray.size is).getD j false = true → listed.getD j false = true) ∧ listed.size = l.toArray.size ∧ J (fun j => listed.getD j false) a w) (m := l.toArray.size - n) (by omega) hord htail ?_ ?_ f listed a' _ inv hk2 ⟨fun j h => by rw [hk1]; exact h, inv.size, by rw [hk1]; exact hJ⟩
      · intro listed a w i hin hr ⟨h1, h2, h3⟩
        obtain ⟨hu, o, ho, hall⟩ := mem_ready.1 hr
        have hir : i ∈ rs := by
          have := List.all_eq_true.1 hrs i (List.mem_range.2 hin)
          rw [Bool.or_eq_true] at this
          rcases this with h4 | h4
          · have := h1 i h4
            rw [getD_both hu] at this
            cases this
          · simpa using h4
        have hgo := List.all_eq_true.1 hg i hir
        simp only [ho] at hgo
        have hno : o.guard = none := by simpa using hgo
        have hw : Region.wanted o (yielded l.toArray a.tmps) = true := by unfold Region.wanted; rw [hno]
        have hlt : i < listed.size := by rw [h2]; omega
        unfold wpOp
        simp only [ho, if_pos hw]
        refine .inl (hstep i hir o (by rw [← nth_eq]; exact ho) (fun j => listed.getD j false) a w (getD_both hu) (fun k hk => ?_) h3 _ (fun a' w' hb hJ' => ⟨hb, fun j hj => ?_, by simp [h2], ?_⟩))
        · unfold depsOf at hk
          obtain ⟨e, he, rfl⟩ := List.mem_map.1 hk
          rw [List.mem_filter] at he
          exact hall e (by simpa using he.1) he.2
        · exact getD_set_true (h1 j hj)
        · have e1 : (fun j => (listed.setIfInBounds i true).getD j false) = fun j => if j = i then true else listed.getD j false := by
            funext j
            by_cases hji : j = i
            · subst hji; simp [hlt]
            · rw [if_neg hji, getD_set_ne false (Ne.symm hji)]
          rw [e1]; exact hJ'
      · rintro a w ⟨-, -, h3⟩
        refine ⟨hseq, ?_⟩
        have e1 : (fun j => (full n (l.toArray.size - n)).getD j false) = fun j => decide (j < n) := by
          funext j
          unfold full
          by_cases hj : j < n
          · simp [Array.getElem?_append, hj]
          · have h9 := getD_replicate_false (l.length - n) (j - n)
            simp [Array.getElem?_append, hj]
            simpa using h9
        rw [e1] at h3
        simpa using hend a w h3
    · rw [show (fun i => l.toArray[i]?) = nth l from funext (nth_eq l)]
      exact hq _ (fun _ h => h)
  refine wp_region_any hm ?_
  have h3 := wpAny_of_X (P := P) (Q := Calm Q) (Q' := Q) Calm.imp (g := l.toArray.size - n) (fun listed a' w' hL => by
    have h2 := wpAny_of_seq (P := P) (ops := l.toArray) (md := .any) (Q' := Q) (l.drop n) n listed a' w' (fun j => by simp [List.getElem?_drop]) (by rw [show (l.drop n).length = l.toArray.size - n by simp]; exact hL.1) (by simpa using hL.2)
    rwa [show (l.drop n).length = l.toArray.size - n by simp] at h2) _ _ _ _ H
  rw [show n + (l.toArray.size - n) = l.toArray.size by omega] at h3
  exact h3
end Go.Dr

namespace Go.Bs
open Go.RowKit Go.Sort Go.Pl
section
variable {P : Program} {α : Type}
theorem flat_len {enc : α → List Value} {sz : Nat} (hen : ∀ x, (enc x).length = sz) : ∀ l : List α, (l.flatMap enc).length = l.length * sz
  | [] => by simp
  | x :: l => by rw [List.flatMap_cons, List.length_append, flat_len hen l, hen, List.length_cons, Nat.add_mul]; omega
theorem cells_src {w : World} {enc : α → List Value} {sz : Nat} (hen : ∀ x, (enc x).length = sz) (hsz : 0 < sz) {b : Nat} {off : Nat} {l : List α} (h : Cells w (some ⟨b, off, none⟩) sz enc l) :
    ∀ j u, (l.flatMap enc)[j]? = some u → w.cell? ((⟨b, off, none⟩ : Addr).add j) = some u := by
  intro j u hj
  have hjl : j < l.length * sz := by rw [← flat_len hen]; exact (List.getElem?_eq_some_iff.1 hj).1
  have hq : j / sz < l.length := Nat.div_lt_of_lt_mul (by rw [Nat.mul_comm]; exact hjl)
  have hr := Nat.mod_lt j hsz
  have hdm := Nat.div_add_mod j sz
  obtain ⟨b', off', e, hcc⟩ := h (j / sz) l[j / sz] (by simp [hq])
  cases e
  have hy : j % sz < (enc l[j / sz]).length := by rw [hen]; exact hr
  have h1 := flatMap_get hen l (j / sz) (j % sz) l[j / sz] (enc l[j / sz])[j % sz] (by simp [hq]) (by simp [hy])
  rw [Nat.mul_comm, hdm, hj] at h1
  have h2 := hcc (j % sz) (enc l[j / sz])[j % sz] (by simp [hy])
  rw [← Option.some.inj h1, Nat.mul_comm, hdm] at h2
  unfold Addr.add
  split
  · rename_i h0; subst h0; simpa using h2
  · simpa using h2
/-- append(append([]T{}), l...): a copy, in a row of its own. -/
theorem wp_copy {o : Oper} {a : Act} {K : Act → World → Prop} {Q : Exit → Act → World → Prop} {w : World} (enc : α → List Value) (t e : TypeId) (sz bytes : Nat) (hT : ElemT P t e sz bytes) (hsz : 0 < sz) (hby : bytes ≤ 1000)
    (hen : ∀ x, (enc x).length = sz) (s x : Operand) (ho : o.op = .call { callee := .builtin .append, args := #[s, x], argTypes := #[t, t] }) (base g : Nat) (hs : a.eval s = .slice (some ⟨g, 0, none⟩) 0 0) (hg : Blk w g e []) (hbg : base ≤ g)
    (X : Option Addr) (m c : Nat) (l : List α) (hx : a.eval x = .slice X m c) (hl : l.length = m) (hc : Cells w X sz enc l) (hm : m ≤ 1000000) (hbase : base ≤ w.heap.size)
    (h : ∀ g' cap w', OwnL w' base e sz enc (.slice (some ⟨g', 0, none⟩) m cap) l → Below w.heap.size w w' → K (a.put o.dst (.slice (some ⟨g', 0, none⟩) m cap)) w') : o.wp P a w K Q := by
  obtain ⟨i, z, ht, hi, hz, hs1, hb1, hz1⟩ := hT
  cases m with
  | zero =>
    have hl2 : l = [] := List.length_eq_zero_iff.1 hl
    subst hl2
    have hrun := run_app_zero (P := P) (w := w) ht hi o.type (some ⟨g, 0, none⟩) X 0 0 c (Nat.le_refl _)
    unfold Oper.wp
    simp [execOp, ho, resolve, invoke, builtin, hs, hx, hrun, Result.andThen]
    exact h g 0 w ⟨by simp, .inr ⟨g, 0, #[], rfl, hbg, hg, Nat.le_refl _, by unfold maxLen; omega, by simp, by simp⟩⟩ (Below.refl _ _)
  | succ m =>
    obtain ⟨b, off, rfl, -⟩ := hc.at (k := 0) (by omega)
    have hfl : (l.flatMap enc).length = (m + 1) * i.size := by rw [flat_len hen, hl, hs1]
    have hmul : (m + 1) * bytes ≤ 1000001 * 1000 := Nat.mul_le_mul (by omega) hby
    have hr := run_append_grow (P := P) (w := w) t o.type e i z ht hi hz ⟨g, 0, none⟩ 0 0 [] (by simp) (fun j u hj => by simp at hj) ⟨b, off, none⟩ (m + 1) c (l.flatMap enc) hfl (cells_src hen hsz hc) (by omega) (by omega) (growslice_fits (by omega) (by rw [hb1, Nat.zero_add]; omega))
    simp only [Nat.zero_add] at hr
    have hge := grownCap_ge w (m + 1) 0 e
    have hcm : grownCap w (m + 1) 0 e ≤ maxLen := grownCap_le_maxLen w (m + 1) 0 e (by unfold maxLen; omega)
    unfold Oper.wp
    simp [execOp, ho, resolve, invoke, builtin, hs, hx, hr, Result.andThen]
    refine h w.heap.size _ _ ⟨by rw [flat_len hen], .inr ⟨w.heap.size, _, _, by rw [hl], hbase, heap_alloc_new w.drew _, by rw [hl]; exact hge, hcm, ?_, ?_⟩⟩ ⟨rfl, rfl, rfl, by simp, fun k hk => by first | exact _root_.Go.heap_alloc_old w.drew _ k hk | exact _root_.Go.heap_alloc_old w.drew _ hk⟩
    · simp only [Array.size_append, List.size_toArray, size_zeroCells, hz1, hfl, hs1]
      rw [← Nat.add_mul]
      congr 1
      omega
    · rw [show l.length * sz = (l.flatMap enc).length by rw [flat_len hen]]
      simp only [Array.toList_append]
      exact List.take_left
end
end Go.Bs

/- Walk: the copy of a show. -/
namespace Go.Proofs.YtilkoooahoecfaaGreat
open Go.RowKit Go.Bs Go.Pg Go.Pl Go.Sort
theorem et24 : ElemT Tryz.prog 24 52 2 16 := ElemT.mk (z := .agg #[.int .i64 0, .int .i64 0]) Tryz.underlying24 (by kernel_rfl) rfl
theorem et48 : ElemT Tryz.prog 38 27 1 2 := ElemT.mk (z := .int .u16 0) Tryz.underlying38 (by kernel_rfl) rfl
theorem et33 : ElemT Tryz.prog 34 64 5 56 := ElemT.mk (z := .agg #[.int .i64 0, .int .i64 0, .int .u16 0, .slice none 0 0, .bool false]) Tryz.underlying34 (by kernel_rfl) rfl
def EmpAt (w : World) (e : TypeId) (v : Value) : Prop := ∃ g, v = .slice (some ⟨g, 0, none⟩) 0 0 ∧ Blk w g e []
def RowAt {α : Type} (w : World) (e : TypeId) (sz : Nat) (enc : α → List Value) (v : Value) (l : List α) : Prop := ∃ A c, v = .slice A l.length c ∧ OwnL w 0 e sz enc (.slice A l.length c) l
def zerC : List Value := [.slice none 0 0, .slice none 0 0, .slice none 0 0, .slice none 0 0, .int .i64 0, .int .i64 0, .slice none 0 0]
def BoxAt (w : World) (bs : Nat) (v : Value) : Prop := ∃ g, v = .pointer (some ⟨g, 0, none⟩) ∧ bs ≤ g ∧ Blk w g 36 zerC
theorem EmpAt.ext {w w' : World} {e : TypeId} {v : Value} (h : EmpAt w e v) (hb : Below w.heap.size w w') : EmpAt w' e v := by
  obtain ⟨g, h1, h2⟩ := h
  exact ⟨g, h1, h2.ext hb⟩
theorem RowAt.ext {α : Type} {w w' : World} {e : TypeId} {sz : Nat} {enc : α → List Value} {v : Value} {l : List α} (h : RowAt w e sz enc v l) (hb : Below w.heap.size w w') : RowAt w' e sz enc v l := by
  obtain ⟨A, c, h1, h2⟩ := h
  exact ⟨A, c, h1, h2.ext hb⟩
theorem RowAt.own {α : Type} {w : World} {base : Nat} {e : TypeId} {sz : Nat} {enc : α → List Value} {v : Value} {l : List α} (hen : ∀ x, (enc x).length = sz) (h : OwnL w base e sz enc v l) : RowAt w e sz enc v l := by
  obtain ⟨A, c, rfl, -, -, h2⟩ := h.cells hen
  exact ⟨A, c, rfl, OwnL.up h (Nat.zero_le _)⟩
theorem BoxAt.ext {w w' : World} {bs : Nat} {v : Value} (h : BoxAt w bs v) (hb : Below w.heap.size w w') : BoxAt w' bs v := by
  obtain ⟨g, h1, h2, h3⟩ := h
  exact ⟨g, h1, h2, h3.ext hb⟩
/-- what the copying of the rows keeps, done as far as D says -/
structure ShJ (w0 : World) (s : Sh) (D : Nat → Bool) (w : World) (x3 x6 x9 x10 x13 x14 x17 x22 x25 x26 : Value) : Prop where
  bl : Below w0.heap.size w0 w
  f0 : D 0 = true → EmpAt w 3 x6
  f4 : D 4 = true → EmpAt w 3 x10
  f8 : D 8 = true → EmpAt w 3 x14
  f16 : D 16 = true → EmpAt w 52 x22
  f3 : D 3 = true → RowAt w 3 1 encI x9 s.rest
  f7 : D 7 = true → RowAt w 3 1 encI x13 s.ins
  f11 : D 11 = true → RowAt w 3 1 encI x17 s.outs
  f19 : D 19 = true → RowAt w 52 2 encP x25 s.before
  f20 : D 20 = true → (D 3 = true ∧ D 7 = true ∧ D 11 = true ∧ D 19 = true) ∧ x26 = .agg #[.slice none 0 0, x9, x13, x17, .int .i64 s.cover, .int .i64 s.dull, x25]
  f21 : D 21 = true → BoxAt w w0.heap.size x3
def ShJA (w0 : World) (X Y : Nat) (s : Sh) (p : ShP) (D : Nat → Bool) (a : Act) (w : World) : Prop := ∃ x3 x6 x9 x10 x13 x14 x17 x22 x25 x26, a = ⟨#[.agg #[.slice p.A s.acts.length p.cA, .slice p.R s.rest.length p.cR, .slice p.I s.ins.length p.cI, .slice p.O s.outs.length p.cO, .int .i64 s.cover, .int .i64 s.dull, .slice p.B s.before.length p.cB], .pointer (some ⟨X, 0, none⟩), .pointer (some ⟨Y, 0, none⟩), x3, undef, undef, x6, .pointer (some ⟨X, 1, none⟩), .slice p.R s.rest.length p.cR, x9, x10, .pointer (some ⟨X, 2, none⟩), .slice p.I s.ins.length p.cI, x13, x14, .pointer (some ⟨X, 3, none⟩), .slice p.O s.outs.length p.cO, x17, .pointer (some ⟨X, 4, none⟩), .int .i64 s.cover, .pointer (some ⟨X, 5, none⟩), .int .i64 s.dull, x22, .pointer (some ⟨X, 6, none⟩), .slice p.B s.before.length p.cB, x25, x26, undef, undef, undef, undef, undef, undef, undef, undef, undef, undef, undef, undef, undef, undef, undef, undef, undef, undef, undef, undef, undef, undef, undef, undef, undef, undef, undef, undef, undef, undef, undef], []⟩ ∧ ShJ w0 s D w x3 x6 x9 x10 x13 x14 x17 x22 x25 x26
theorem upT {D : Nat → Bool} {i j : Nat} (h : D j = true) : (if j = i then true else D j) = true := by split <;> simp [h]
theorem upD {D : Nat → Bool} {i j : Nat} (h : (if j = i then true else D j) = true) (hne : j ≠ i) : D j = true := by rwa [if_neg hne] at h
theorem OwnL.othr {α : Type} {w : World} {base : Nat} {e : TypeId} {sz : Nat} {enc : α → List Value} {v : Value} {l : List α} (h : OwnL w base e sz enc v l) {g T : Nat} {cs : List Value} (hg : Blk w g T cs) (hT : T ≠ e) (i : Nat) (u : Value) : OwnL (w.setCell ⟨g, i, none⟩ u) base e sz enc v l := by
  refine h.kept (grownBy_setCell w ⟨g, i, none⟩ u) ?_
  have h1 := own_ne h hg hT
  cases hv : v.ownBlock with
  | none => exact .inl rfl
  | some k => right; intro e2; rw [hv] at h1; cases e2; simp at h1
theorem own_own {α β : Type} {w : World} {b1 b2 : Nat} {e1 e2 : TypeId} {s1 s2 : Nat} {n1 : α → List Value} {n2 : β → List Value} {v1 v2 : Value} {l1 : List α} {l2 : List β} (h1 : OwnL w b1 e1 s1 n1 v1 l1) (h2 : OwnL w b2 e2 s2 n2 v2 l2) (hne : e1 ≠ e2) : v1.ownBlock = none ∨ v1.ownBlock ≠ v2.ownBlock := by
  rcases h1.2 with ⟨rfl, -⟩ | ⟨g, cap, cur, rfl, -, hg, -⟩
  · exact .inl rfl
  · right
    rcases h2.2 with ⟨rfl, -⟩ | ⟨g', cap', cur', rfl, -, hg', -⟩
    · simp [Value.ownBlock]
    · simp only [Value.ownBlock, ne_eq, Option.some.injEq]
      rintro rfl
      rw [hg] at hg'
      simp only [Option.some.injEq, Obj.cells.injEq] at hg'
      exact hne hg'.2.1
/-- the loop of the copying -/
structure ShL (w : World) (s : Sh) (p : ShP) (g : Nat) (A9 A13 A17 A25 : Option Addr) (c9 c13 c17 c25 lo k : Nat) (av : List AcV) (v : Value) (W : World) : Prop where
  bl : Below w.heap.size w W
  bx : Blk W g 36 [v, .slice A9 s.rest.length c9, .slice A13 s.ins.length c13, .slice A17 s.outs.length c17, .int .i64 s.cover, .int .i64 s.dull, .slice A25 s.before.length c25]
  sb : Blk W w.heap.size 26 (shC s p)
  yb : Blk W (w.heap.size + 1) 36 zerC
  r9 : OwnL W 0 3 1 encI (.slice A9 s.rest.length c9) s.rest
  r13 : OwnL W 0 3 1 encI (.slice A13 s.ins.length c13) s.ins
  r17 : OwnL W 0 3 1 encI (.slice A17 s.outs.length c17) s.outs
  r25 : OwnL W 0 52 2 encP (.slice A25 s.before.length c25) s.before
  own : OwnL W lo 64 5 AcV.enc v av
  eq : av.map AcV.a = s.acts.take k
  cs : ∀ x ∈ av, OwnL W 0 27 1 encU (.slice x.C x.a.casts.length x.c) x.a.casts
  lo : w.heap.size ≤ lo ∧ lo ≤ W.heap.size
theorem ShL.ext {w : World} {s : Sh} {p : ShP} {g : Nat} {A9 A13 A17 A25 : Option Addr} {c9 c13 c17 c25 lo k : Nat} {av : List AcV} {v : Value} {W W' : World} (h : ShL w s p g A9 A13 A17 A25 c9 c13 c17 c25 lo k av v W) (hb : Below W.heap.size W W') : ShL w s p g A9 A13 A17 A25 c9 c13 c17 c25 lo k av v W' :=
  ⟨h.bl.trans (hb.mono h.bl.size), h.bx.ext hb, h.sb.ext hb, h.yb.ext hb, h.r9.ext hb, h.r13.ext hb, h.r17.ext hb, h.r25.ext hb, h.own.ext hb, h.eq, fun x hx => (h.cs x hx).ext hb, h.lo.1, Nat.le_trans h.lo.2 hb.size⟩
/-- one act more: the row grows, then the box is told -/
theorem ShL.snoc {w : World} {s : Sh} {p : ShP} {g : Nat} {A9 A13 A17 A25 : Option Addr} {c9 c13 c17 c25 lo k : Nat} {av : List AcV} {v v' : Value} {W W' : World} {x : AcV} (h : ShL w s p g A9 A13 A17 A25 c9 c13 c17 c25 lo k av v W)
    (hx : OwnL W 0 27 1 encU (.slice x.C x.a.casts.length x.c) x.a.casts) (hk : k < s.acts.length) (ha : x.a = s.act k) (hg0 : w.heap.size + 2 ≤ g) (hn : OwnL W' lo 64 5 AcV.enc v' (av ++ [x])) (hg : W.grownBy W' v.ownBlock) :
    ShL w s p g A9 A13 A17 A25 c9 c13 c17 c25 lo (k + 1) (av ++ [x]) v' (W'.setCell ⟨g, 0, none⟩ v') := by
  have hbk : ∀ {A U : Nat} {cs : List Value}, Blk W A U cs → U ≠ 64 → Blk W' A U cs := fun {A U cs} hb hU => (hg.block A hb.lt (fun e => by
    have := own_ne h.own hb hU
    rw [← e] at this
    simp at this)).trans hb
  have hbx := hbk h.bx (by decide)
  have hwg : w.heap.size ≤ g := by omega
  refine ⟨(below_grown h.bl h.bl.size hg (fun k hk => Nat.le_trans h.lo.1 (h.own.lt hk).1)).setCell hwg _, by simpa using hbx.set 0 v', (hbk h.sb (by decide)).other (by simp; omega) _, (hbk h.yb (by decide)).other (by simp; omega) _, ?_, ?_, ?_, ?_, ?_, ?_, ?_, h.lo.1, Nat.le_trans h.lo.2 (by simpa using hg.size)⟩
  · exact OwnL.othr (h.r9.kept hg (own_own h.r9 h.own (by decide))) hbx (by decide) 0 v'
  · exact OwnL.othr (h.r13.kept hg (own_own h.r13 h.own (by decide))) hbx (by decide) 0 v'
  · exact OwnL.othr (h.r17.kept hg (own_own h.r17 h.own (by decide))) hbx (by decide) 0 v'
  · exact OwnL.othr (h.r25.kept hg (own_own h.r25 h.own (by decide))) hbx (by decide) 0 v'
  · exact OwnL.othr hn hbx (by decide) 0 v'
  · rw [List.map_append, h.eq, List.take_succ_eq_append_getElem hk, ← Sh.act_eq hk, ← ha]; rfl
  · intro y hy
    rcases List.mem_append.1 hy with hy | hy
    · exact OwnL.othr ((h.cs y hy).kept hg (own_own (h.cs y hy) h.own (by decide))) hbx (by decide) 0 v'
    · rw [List.mem_singleton] at hy
      subst hy
      exact OwnL.othr (hx.kept hg (own_own hx h.own (by decide))) hbx (by decide) 0 _
set_option maxRecDepth 100000 in
set_option maxHeartbeats 2000000 in
theorem Show_any (s : Sh) (p : ShP) (w : World) (h : ShM w s p) :
    Calls Tryz.prog 9 #[shV s p] w fun e w' => (∃ p', e = .returned (shV s p') ∧ ShM w' s p') ∧ Below w.heap.size w w' := by
  obtain ⟨m1, m2, m3, m4, m5⟩ := h.small
  have hb0 := ext_alloc w (.cells (shC s p).toArray 26)
  have hS := Blk.new w 26 (shC s p)
  unfold shV at *
  unfold shC at *
  go_enter Tryz.func9, Tryz.ntmps9
  go_upto_region 1 with fail
  have hS1 := hS.ext (ext_alloc (w.alloc (.cells #[.slice p.A s.acts.length p.cA, .slice p.R s.rest.length p.cR, .slice p.I s.ins.length p.cI, .slice p.O s.outs.length p.cO, .int .i64 s.cover, .int .i64 s.dull, .slice p.B s.before.length p.cB] 26)) (.cells #[.slice none 0 0, .slice none 0 0, .slice none 0 0, .slice none 0 0, .int .i64 0, .int .i64 0, .slice none 0 0] 36))
  have hY := Blk.new (w.alloc (.cells #[.slice p.A s.acts.length p.cA, .slice p.R s.rest.length p.cR, .slice p.I s.ins.length p.cI, .slice p.O s.outs.length p.cO, .int .i64 s.cover, .int .i64 s.dull, .slice p.B s.before.length p.cB] 26)) 36 zerC
  have hb1 := hb0.trans ((ext_alloc (w.alloc (.cells #[.slice p.A s.acts.length p.cA, .slice p.R s.rest.length p.cR, .slice p.I s.ins.length p.cI, .slice p.O s.outs.length p.cO, .int .i64 s.cover, .int .i64 s.dull, .slice p.B s.before.length p.cB] 26)) (.cells #[.slice none 0 0, .slice none 0 0, .slice none 0 0, .slice none 0 0, .int .i64 0, .int .i64 0, .slice none 0 0] 36)).mono hb0.size)
  have hz : (w.alloc (.cells #[.slice p.A s.acts.length p.cA, .slice p.R s.rest.length p.cR, .slice p.I s.ins.length p.cI, .slice p.O s.outs.length p.cO, .int .i64 s.cover, .int .i64 s.dull, .slice p.B s.before.length p.cB] 26)).heap.size = w.heap.size + 1 := by simp
  rw [hz] at hY
  unfold zerC at hY
  change Blk (World.alloc _ (.cells #[.slice none 0 0, .slice none 0 0, .slice none 0 0, .slice none 0 0, .int .i64 0, .int .i64 0, .slice none 0 0] 36)) _ _ _ at hY
  generalize (w.alloc (.cells #[.slice p.A s.acts.length p.cA, .slice p.R s.rest.length p.cR, .slice p.I s.ins.length p.cI, .slice p.O s.outs.length p.cO, .int .i64 s.cover, .int .i64 s.dull, .slice p.B s.before.length p.cB] 26)).alloc (.cells #[.slice none 0 0, .slice none 0 0, .slice none 0 0, .slice none 0 0, .int .i64 0, .int .i64 0, .slice none 0 0] 36) = W0 at *
  clear hb0 hS hz
  have hb2 := hb1.drew
  have hS2 := hS1.ext (ext_drew W0)
  have hY2 := hY.ext (ext_drew W0)
  refine Dr.wp_region_inv 22 [] [1, 2, 5, 6, 9, 10, 12, 13, 14, 15, 17, 18] [0, 4, 8, 16, 3, 7, 11, 19, 20, 21] (ShJA W0.drew w.heap.size (w.heap.size + 1) s p) (by kernel_rfl) (by kernel_rfl) ?_ ?_ ?_
  · have q0 := Dr.cell0 (hS2.cell (i := 0) rfl)
    have q1 := Dr.cell0 (hS2.cell (i := 1) rfl)
    have q2 := Dr.cell0 (hS2.cell (i := 2) rfl)
    have q3 := Dr.cell0 (hS2.cell (i := 3) rfl)
    have q4 := Dr.cell0 (hS2.cell (i := 4) rfl)
    have q5 := Dr.cell0 (hS2.cell (i := 5) rfl)
    have q6 := Dr.cell0 (hS2.cell (i := 6) rfl)
    intro K hK
    change wpQuiet _ _ _ K [_, _, _, _, _, _, _, _, _, _, _, _] _
    iterate 12 (go_big_quiet_step (fail))
    refine wpQuiet_nil (hK _ ?_)
    exact ⟨_, _, _, _, _, _, _, _, _, _, rfl, ⟨Below.refl _ _, fun d => absurd d (by decide), fun d => absurd d (by decide), fun d => absurd d (by decide), fun d => absurd d (by decide), fun d => absurd d (by decide), fun d => absurd d (by decide), fun d => absurd d (by decide), fun d => absurd d (by decide), fun d => absurd d (by decide), fun d => absurd d (by decide)⟩⟩
  · generalize W0.drew = V0 at *
    clear hS1 hY hb1
    have Hh := Lib.hid h
    clear h
    rintro i hi o ho D a w1 hD hdeps ⟨x3, x6, x9, x10, x13, x14, x17, x22, x25, x26, rfl, hj⟩ K hK
    simp only [List.mem_cons, List.not_mem_nil, or_false] at hi
    rcases hi with rfl | rfl | rfl | rfl | rfl | rfl | rfl | rfl | rfl | rfl <;> cases ho
    · have hb := ext_alloc w1 (.cells #[] 3)
      have hn : Blk (w1.alloc (.cells #[] 3)) w1.heap.size 3 [] := Blk.new w1 3 []
      go_wp2_with fail
      exact hK _ _ (.of hb) ⟨x3, _, x9, x10, x13, x14, x17, x22, x25, x26, rfl, ⟨hj.bl.trans (hb.mono hj.bl.size), fun _ => ⟨w1.heap.size, rfl, hn⟩, fun d => (hj.f4 (upD d (by decide))).ext hb, fun d => (hj.f8 (upD d (by decide))).ext hb, fun d => (hj.f16 (upD d (by decide))).ext hb, fun d => (hj.f3 (upD d (by decide))).ext hb, fun d => (hj.f7 (upD d (by decide))).ext hb, fun d => (hj.f11 (upD d (by decide))).ext hb, fun d => (hj.f19 (upD d (by decide))).ext hb, fun d => (hj.f20 (upD d (by decide))).imp (fun ⟨a1, a2, a3, a4⟩ => ⟨upT a1, upT a2, upT a3, upT a4⟩) id, fun d => (hj.f21 (upD d (by decide))).ext hb⟩⟩
    · have hb := ext_alloc w1 (.cells #[] 3)
      have hn : Blk (w1.alloc (.cells #[] 3)) w1.heap.size 3 [] := Blk.new w1 3 []
      go_wp2_with fail
      exact hK _ _ (.of hb) ⟨x3, x6, x9, _, x13, x14, x17, x22, x25, x26, rfl, ⟨hj.bl.trans (hb.mono hj.bl.size), fun d => (hj.f0 (upD d (by decide))).ext hb, fun _ => ⟨w1.heap.size, rfl, hn⟩, fun d => (hj.f8 (upD d (by decide))).ext hb, fun d => (hj.f16 (upD d (by decide))).ext hb, fun d => (hj.f3 (upD d (by decide))).ext hb, fun d => (hj.f7 (upD d (by decide))).ext hb, fun d => (hj.f11 (upD d (by decide))).ext hb, fun d => (hj.f19 (upD d (by decide))).ext hb, fun d => (hj.f20 (upD d (by decide))).imp (fun ⟨a1, a2, a3, a4⟩ => ⟨upT a1, upT a2, upT a3, upT a4⟩) id, fun d => (hj.f21 (upD d (by decide))).ext hb⟩⟩
    · have hb := ext_alloc w1 (.cells #[] 3)
      have hn : Blk (w1.alloc (.cells #[] 3)) w1.heap.size 3 [] := Blk.new w1 3 []
      go_wp2_with fail
      exact hK _ _ (.of hb) ⟨x3, x6, x9, x10, x13, _, x17, x22, x25, x26, rfl, ⟨hj.bl.trans (hb.mono hj.bl.size), fun d => (hj.f0 (upD d (by decide))).ext hb, fun d => (hj.f4 (upD d (by decide))).ext hb, fun _ => ⟨w1.heap.size, rfl, hn⟩, fun d => (hj.f16 (upD d (by decide))).ext hb, fun d => (hj.f3 (upD d (by decide))).ext hb, fun d => (hj.f7 (upD d (by decide))).ext hb, fun d => (hj.f11 (upD d (by decide))).ext hb, fun d => (hj.f19 (upD d (by decide))).ext hb, fun d => (hj.f20 (upD d (by decide))).imp (fun ⟨a1, a2, a3, a4⟩ => ⟨upT a1, upT a2, upT a3, upT a4⟩) id, fun d => (hj.f21 (upD d (by decide))).ext hb⟩⟩
    · have hb := ext_alloc w1 (.cells #[] 52)
      have hn : Blk (w1.alloc (.cells #[] 52)) w1.heap.size 52 [] := Blk.new w1 52 []
      go_wp2_with fail
      exact hK _ _ (.of hb) ⟨x3, x6, x9, x10, x13, x14, x17, _, x25, x26, rfl, ⟨hj.bl.trans (hb.mono hj.bl.size), fun d => (hj.f0 (upD d (by decide))).ext hb, fun d => (hj.f4 (upD d (by decide))).ext hb, fun d => (hj.f8 (upD d (by decide))).ext hb, fun _ => ⟨w1.heap.size, rfl, hn⟩, fun d => (hj.f3 (upD d (by decide))).ext hb, fun d => (hj.f7 (upD d (by decide))).ext hb, fun d => (hj.f11 (upD d (by decide))).ext hb, fun d => (hj.f19 (upD d (by decide))).ext hb, fun d => (hj.f20 (upD d (by decide))).imp (fun ⟨a1, a2, a3, a4⟩ => ⟨upT a1, upT a2, upT a3, upT a4⟩) id, fun d => (hj.f21 (upD d (by decide))).ext hb⟩⟩
    · obtain ⟨g, rfl, hg⟩ := hj.f0 (hdeps 0 (by decide))
      refine wp_copy encI 23 3 1 8 et23 (by decide) (by decide) encI_len _ _ rfl 0 g rfl hg (Nat.zero_le _) p.R s.rest.length p.cR s.rest rfl rfl ((Hh.out.ext (hb2.trans (hj.bl.mono hb2.size))).rest) (by omega) (Nat.zero_le _) (fun g' cap w' hown hb => ?_)
      exact hK _ _ (.of hb) ⟨x3, _, _, x10, x13, x14, x17, x22, x25, x26, rfl, ⟨hj.bl.trans (hb.mono hj.bl.size), fun d => (hj.f0 (upD d (by decide))).ext hb, fun d => (hj.f4 (upD d (by decide))).ext hb, fun d => (hj.f8 (upD d (by decide))).ext hb, fun d => (hj.f16 (upD d (by decide))).ext hb, fun _ => RowAt.own encI_len hown, fun d => (hj.f7 (upD d (by decide))).ext hb, fun d => (hj.f11 (upD d (by decide))).ext hb, fun d => (hj.f19 (upD d (by decide))).ext hb, fun d => absurd (hj.f20 (upD d (by decide))).1.1 (by rw [hD]; decide), fun d => (hj.f21 (upD d (by decide))).ext hb⟩⟩
    · obtain ⟨g, rfl, hg⟩ := hj.f4 (hdeps 4 (by decide))
      refine wp_copy encI 23 3 1 8 et23 (by decide) (by decide) encI_len _ _ rfl 0 g rfl hg (Nat.zero_le _) p.I s.ins.length p.cI s.ins rfl rfl ((Hh.out.ext (hb2.trans (hj.bl.mono hb2.size))).ins) (by omega) (Nat.zero_le _) (fun g' cap w' hown hb => ?_)
      exact hK _ _ (.of hb) ⟨x3, x6, x9, _, _, x14, x17, x22, x25, x26, rfl, ⟨hj.bl.trans (hb.mono hj.bl.size), fun d => (hj.f0 (upD d (by decide))).ext hb, fun d => (hj.f4 (upD d (by decide))).ext hb, fun d => (hj.f8 (upD d (by decide))).ext hb, fun d => (hj.f16 (upD d (by decide))).ext hb, fun d => (hj.f3 (upD d (by decide))).ext hb, fun _ => RowAt.own encI_len hown, fun d => (hj.f11 (upD d (by decide))).ext hb, fun d => (hj.f19 (upD d (by decide))).ext hb, fun d => absurd (hj.f20 (upD d (by decide))).1.2.1 (by rw [hD]; decide), fun d => (hj.f21 (upD d (by decide))).ext hb⟩⟩
    · obtain ⟨g, rfl, hg⟩ := hj.f8 (hdeps 8 (by decide))
      refine wp_copy encI 23 3 1 8 et23 (by decide) (by decide) encI_len _ _ rfl 0 g rfl hg (Nat.zero_le _) p.O s.outs.length p.cO s.outs rfl rfl ((Hh.out.ext (hb2.trans (hj.bl.mono hb2.size))).outs) (by omega) (Nat.zero_le _) (fun g' cap w' hown hb => ?_)
      exact hK _ _ (.of hb) ⟨x3, x6, x9, x10, x13, _, _, x22, x25, x26, rfl, ⟨hj.bl.trans (hb.mono hj.bl.size), fun d => (hj.f0 (upD d (by decide))).ext hb, fun d => (hj.f4 (upD d (by decide))).ext hb, fun d => (hj.f8 (upD d (by decide))).ext hb, fun d => (hj.f16 (upD d (by decide))).ext hb, fun d => (hj.f3 (upD d (by decide))).ext hb, fun d => (hj.f7 (upD d (by decide))).ext hb, fun _ => RowAt.own encI_len hown, fun d => (hj.f19 (upD d (by decide))).ext hb, fun d => absurd (hj.f20 (upD d (by decide))).1.2.2.1 (by rw [hD]; decide), fun d => (hj.f21 (upD d (by decide))).ext hb⟩⟩
    · obtain ⟨g, rfl, hg⟩ := hj.f16 (hdeps 16 (by decide))
      refine wp_copy encP 24 52 2 16 et24 (by decide) (by decide) encP_len _ _ rfl 0 g rfl hg (Nat.zero_le _) p.B s.before.length p.cB s.before rfl rfl ((Hh.out.ext (hb2.trans (hj.bl.mono hb2.size))).before) (by omega) (Nat.zero_le _) (fun g' cap w' hown hb => ?_)
      exact hK _ _ (.of hb) ⟨x3, x6, x9, x10, x13, x14, x17, _, _, x26, rfl, ⟨hj.bl.trans (hb.mono hj.bl.size), fun d => (hj.f0 (upD d (by decide))).ext hb, fun d => (hj.f4 (upD d (by decide))).ext hb, fun d => (hj.f8 (upD d (by decide))).ext hb, fun d => (hj.f16 (upD d (by decide))).ext hb, fun d => (hj.f3 (upD d (by decide))).ext hb, fun d => (hj.f7 (upD d (by decide))).ext hb, fun d => (hj.f11 (upD d (by decide))).ext hb, fun _ => RowAt.own encP_len hown, fun d => absurd (hj.f20 (upD d (by decide))).1.2.2.2 (by rw [hD]; decide), fun d => (hj.f21 (upD d (by decide))).ext hb⟩⟩
    · obtain ⟨A9, c9, rfl, -⟩ := hj.f3 (hdeps 3 (by decide))
      obtain ⟨A13, c13, rfl, -⟩ := hj.f7 (hdeps 7 (by decide))
      obtain ⟨A17, c17, rfl, -⟩ := hj.f11 (hdeps 11 (by decide))
      obtain ⟨A25, c25, rfl, -⟩ := hj.f19 (hdeps 19 (by decide))
      go_wp2_with fail
      exact hK _ _ (Dr.Bel.refl _ _) ⟨x3, x6, _, x10, _, x14, _, x22, _, _, rfl, ⟨hj.bl, fun d => hj.f0 (upD d (by decide)), fun d => hj.f4 (upD d (by decide)), fun d => hj.f8 (upD d (by decide)), fun d => hj.f16 (upD d (by decide)), fun d => hj.f3 (upD d (by decide)), fun d => hj.f7 (upD d (by decide)), fun d => hj.f11 (upD d (by decide)), fun d => hj.f19 (upD d (by decide)), fun _ => ⟨⟨upT (hdeps 3 (by decide)), upT (hdeps 7 (by decide)), upT (hdeps 11 (by decide)), upT (hdeps 19 (by decide))⟩, rfl⟩, fun d => hj.f21 (upD d (by decide))⟩⟩
    · have hb := ext_alloc w1 (.cells #[.slice none 0 0, .slice none 0 0, .slice none 0 0, .slice none 0 0, .int .i64 0, .int .i64 0, .slice none 0 0] 36)
      have hn : Blk (w1.alloc (.cells #[.slice none 0 0, .slice none 0 0, .slice none 0 0, .slice none 0 0, .int .i64 0, .int .i64 0, .slice none 0 0] 36)) w1.heap.size 36 zerC := Blk.new w1 36 zerC
      go_wp2_with fail
      exact hK _ _ (.of hb) ⟨_, x6, x9, x10, x13, x14, x17, x22, x25, x26, rfl, ⟨hj.bl.trans (hb.mono hj.bl.size), fun d => (hj.f0 (upD d (by decide))).ext hb, fun d => (hj.f4 (upD d (by decide))).ext hb, fun d => (hj.f8 (upD d (by decide))).ext hb, fun d => (hj.f16 (upD d (by decide))).ext hb, fun d => (hj.f3 (upD d (by decide))).ext hb, fun d => (hj.f7 (upD d (by decide))).ext hb, fun d => (hj.f11 (upD d (by decide))).ext hb, fun d => (hj.f19 (upD d (by decide))).ext hb, fun d => (hj.f20 (upD d (by decide))).imp (fun ⟨a1, a2, a3, a4⟩ => ⟨upT a1, upT a2, upT a3, upT a4⟩) id, fun _ => ⟨w1.heap.size, rfl, hj.bl.size, hn⟩⟩⟩
  · generalize W0.drew = V0 at *
    rintro a w1 ⟨x3, x6, x9, x10, x13, x14, x17, x22, x25, x26, rfl, hj⟩
    obtain ⟨-, h26⟩ := hj.f20 (by decide)
    obtain ⟨A9, c9, rfl, hc9⟩ := hj.f3 (by decide)
    obtain ⟨A13, c13, rfl, hc13⟩ := hj.f7 (by decide)
    obtain ⟨A17, c17, rfl, hc17⟩ := hj.f11 (by decide)
    obtain ⟨A25, c25, rfl, hc25⟩ := hj.f19 (by decide)
    obtain ⟨g, rfl, hg0, hgb⟩ := hj.f21 (by decide)
    subst h26
    have hbl := hb2.trans (hj.bl.mono hb2.size)
    have hS3 := hS2.ext (hj.bl.mono (Nat.le_refl _))
    have hY3 := hY2.ext (hj.bl.mono (Nat.le_refl _))
    have hXg := hS2.lt
    have hYg := hY2.lt
    clear hj hS2 hY2 hb2
    change wpList _ _ _ [_] _ _
    unfold zerC at hgb
    have e0 : w1.cell? ⟨g, 0, none⟩ = some _ := hgb.cell (i := 0) rfl
    have e1 : w1.cell? ⟨g, 1, none⟩ = some _ := hgb.cell (i := 1) rfl
    have e2 : w1.cell? ⟨g, 2, none⟩ = some _ := hgb.cell (i := 2) rfl
    have e3 : w1.cell? ⟨g, 3, none⟩ = some _ := hgb.cell (i := 3) rfl
    have e4 : w1.cell? ⟨g, 4, none⟩ = some _ := hgb.cell (i := 4) rfl
    have e5 : w1.cell? ⟨g, 5, none⟩ = some _ := hgb.cell (i := 5) rfl
    have e6 : w1.cell? ⟨g, 6, none⟩ = some _ := hgb.cell (i := 6) rfl
    have f0 := hgb.free 0
    have f1 := hgb.free 1
    have f2 := hgb.free 2
    have f3 := hgb.free 3
    have f4 := hgb.free 4
    have f5 := hgb.free 5
    have f6 := hgb.free 6
    go_upto_region 2 with fail
    have i9 : OwnL w1 0 3 1 encI (.slice A9 s.rest.length c9) s.rest := hc9
    have hL := Lib.hid (show ShL w s p g A9 A13 A17 A25 c9 c13 c17 c25 w1.heap.size 0 [] (.slice none 0 0) (((((((w1.setCell ⟨g, 0, none⟩ (.slice none 0 0)).setCell ⟨g, 1, none⟩ (.slice A9 s.rest.length c9)).setCell ⟨g, 2, none⟩ (.slice A13 s.ins.length c13)).setCell ⟨g, 3, none⟩ (.slice A17 s.outs.length c17)).setCell ⟨g, 4, none⟩ (.int .i64 s.cover)).setCell ⟨g, 5, none⟩ (.int .i64 s.dull)).setCell ⟨g, 6, none⟩ (.slice A25 s.before.length c25)) from by
      have hwg : w.heap.size + 2 ≤ g := by omega
      have b0 := hgb.set 0 (.slice none 0 0)
      have b1 := b0.set 1 (.slice A9 s.rest.length c9)
      have b2 := b1.set 2 (.slice A13 s.ins.length c13)
      have b3 := b2.set 3 (.slice A17 s.outs.length c17)
      have b4 := b3.set 4 (.int .i64 s.cover)
      have b5 := b4.set 5 (.int .i64 s.dull)
      have b6 := b5.set 6 (.slice A25 s.before.length c25)
      have o7 : ∀ {α : Type} {e : TypeId} {sz : Nat} {enc : α → List Value} {v : Value} {l : List α}, OwnL w1 0 e sz enc v l → (36 : Nat) ≠ e → OwnL (((((((w1.setCell ⟨g, 0, none⟩ (.slice none 0 0)).setCell ⟨g, 1, none⟩ (.slice A9 s.rest.length c9)).setCell ⟨g, 2, none⟩ (.slice A13 s.ins.length c13)).setCell ⟨g, 3, none⟩ (.slice A17 s.outs.length c17)).setCell ⟨g, 4, none⟩ (.int .i64 s.cover)).setCell ⟨g, 5, none⟩ (.int .i64 s.dull)).setCell ⟨g, 6, none⟩ (.slice A25 s.before.length c25)) 0 e sz enc v l := fun h1 hne =>
        OwnL.othr (OwnL.othr (OwnL.othr (OwnL.othr (OwnL.othr (OwnL.othr (OwnL.othr h1 hgb hne 0 _) b0 hne 1 _) b1 hne 2 _) b2 hne 3 _) b3 hne 4 _) b4 hne 5 _) b5 hne 6 _
      refine ⟨((((((hbl.setCell (by simp; omega) _).setCell (by simp; omega) _).setCell (by simp; omega) _).setCell (by simp; omega) _).setCell (by simp; omega) _).setCell (by simp; omega) _).setCell (by simp; omega) _, b6, ?_, ?_, o7 hc9 (by decide), o7 hc13 (by decide), o7 hc17 (by decide), o7 hc25 (by decide), OwnL.nil, rfl, fun x hx => by simp at hx, hbl.size, by simp⟩
      · exact ((((((hS3.other (by simp; omega) _).other (by simp; omega) _).other (by simp; omega) _).other (by simp; omega) _).other (by simp; omega) _).other (by simp; omega) _).other (by simp; omega) _
      · exact ((((((hY3.other (by simp; omega) _).other (by simp; omega) _).other (by simp; omega) _).other (by simp; omega) _).other (by simp; omega) _).other (by simp; omega) _).other (by simp; omega) _)
    have hwg : w.heap.size + 2 ≤ g := by omega
    clear i9 e0 e1 e2 e3 e4 e5 e6 f0 f1 f2 f3 f4 f5 f6 hgb hS3 hY3 hbl hc9 hc13 hc17 hc25 hb1 hS1 hY hg0 hXg hYg
    generalize w1.heap.size = lo at *
    generalize (((((((w1.setCell _ _).setCell _ _).setCell _ _).setCell _ _).setCell _ _).setCell _ _).setCell _ _) = W2 at *
    have Hh := Lib.hid h
    clear h
    go_wp2
    go_loopw [4] (fun t wr => ∃ (k : Nat) (av : List AcV) (v : Value), t = .int .i64 k ∧ k ≤ s.acts.length ∧ ShL w s p g A9 A13 A17 A25 c9 c13 c17 c25 lo k av v wr) (fun t _ => s.acts.length - (intOf t).toNat)
    case atStart => exact ⟨0, [], _, rfl, by omega, hL.out⟩
    case round =>
      obtain ⟨k, av, v, rfl, hk, hl⟩ := hrel
      by_cases hlt : k < s.acts.length
      · have hlt' : (k : Int) < (s.acts.length : Int) := by omega
        have hk0 : (0 : Int) ≤ k := by omega
        obtain ⟨x, hxm, hxa, b, off, hA, hbl, c0, c1, c2, c3, c4, hcc⟩ := (Hh.out.ext hl.bl).av' hlt
        have hx3 := (Hh.out.bit hlt).2.1
        rw [← hxa] at hx3
        have s0 : wr.cell? ⟨w.heap.size, 0, none⟩ = some (.slice (some ⟨b, off, none⟩) s.acts.length p.cA) := by rw [← hA]; exact hl.sb.cell (i := 0) rfl
        have Hxa := Lib.hid hxa
        have Hl := Lib.hid hl
        have Hcc := Lib.hid hcc
        clear hl hcc hxa hxm hA
        go_upto_region 6 with fail
        have hbz := ext_alloc wr (.cells #[.int .i64 x.a.min, .int .i64 x.a.ten, .int .u16 x.a.rigs, .slice x.C x.a.casts.length x.c, .bool x.a.spare] 40)
        have hZ : Blk (wr.alloc (.cells #[.int .i64 x.a.min, .int .i64 x.a.ten, .int .u16 x.a.rigs, .slice x.C x.a.casts.length x.c, .bool x.a.spare] 40)) wr.heap.size 40 [.int .i64 x.a.min, .int .i64 x.a.ten, .int .u16 x.a.rigs, .slice x.C x.a.casts.length x.c, .bool x.a.spare] := Blk.new wr 40 _
        have hl1 := Hl.out.ext hbz
        have hcc1 := Hcc.out.ext hbz
        clear s0 c0 c1 c2 c3 c4 hbz Hl Hcc
        generalize wr.alloc (.cells #[.int .i64 x.a.min, .int .i64 x.a.ten, .int .u16 x.a.rigs, .slice x.C x.a.casts.length x.c, .bool x.a.spare] 40) = Wz at *
        refine Dr.wp_region_plan 16 [] (.q [0, 1, 2, 3, 4, 5, 6, 7, 9, 10, 12, 13] (.e1 8 (.e1 11 (.q [14] (.e1 15 .done))))) (by kernel_rfl) (by kernel_rfl) ?_
        have hl2 := hl1.ext (ext_drew Wz)
        have hcc2 := hcc1.ext (ext_drew Wz)
        have hZ2 := hZ.ext (ext_drew Wz)
        clear hl1 hcc1 hZ
        generalize World.drew _ = V1 at *
        have q0 := Dr.cell0 (hZ2.cell (i := 0) rfl)
        have q1 := Dr.cell0 (hZ2.cell (i := 1) rfl)
        have q2 := Dr.cell0 (hZ2.cell (i := 2) rfl)
        have q3 := Dr.cell0 (hZ2.cell (i := 3) rfl)
        have q4 := Dr.cell0 (hZ2.cell (i := 4) rfl)
        have q5 := Dr.cell0 (hl2.bx.cell (i := 0) rfl)
        have Hl2 := Lib.hid hl2
        clear hl2
        refine Dr.plan_q (l := [_, _, _, _, _, _, _, _, _, _, _, _]) rfl (fun K hK => ?_)
        iterate 12 (go_big_quiet_step (fail))
        refine wpQuiet_nil (hK _ ?_); clear hK K
        clear q0 q1 q2 q3 q4 q5 hZ2
        have hbe := ext_alloc V1 (.cells #[] 27)
        have hE : Blk (V1.alloc (.cells #[] 27)) V1.heap.size 27 [] := Blk.new V1 27 []
        refine Dr.plan_e rfl (by rfl) (fun K hK => ?_)
        go_wp2_with fail
        refine hK _ _ (.of hbe) ?_; clear hK K
        have Hl3 := Lib.hid (Hl2.out.ext hbe)
        have hcc3 := hcc2.ext hbe
        clear Hl2 hcc2 hbe
        generalize V1.alloc (.cells #[] 27) = V3 at *
        refine Dr.plan_e rfl (by rfl) (fun K hK => ?_)
        refine wp_copy encU 38 27 1 2 et48 (by decide) (by decide) encU_len _ _ rfl 0 V1.heap.size rfl hE (Nat.zero_le _) x.C x.a.casts.length x.c x.a.casts rfl rfl hcc3 (by omega) (Nat.zero_le _) (fun g2 cap V4 hown hb4 => ?_)
        refine hK _ _ (.of hb4) ?_; clear hK K
        have Hl4 := Lib.hid (Hl3.out.ext hb4)
        clear Hl3 hb4 hE hcc3
        go_frame
        refine Dr.plan_q (l := [_]) rfl (fun K hK => ?_)
        iterate 1 (go_big_quiet_step (fail))
        refine wpQuiet_nil (hK _ ?_); clear hK K
        have hbn := ext_alloc V4 (.cells #[.int .i64 x.a.min, .int .i64 x.a.ten, .int .u16 x.a.rigs, .slice (some ⟨g2, 0, none⟩) x.a.casts.length cap, .bool x.a.spare] 64)
        have hN : Blk (V4.alloc (.cells #[.int .i64 x.a.min, .int .i64 x.a.ten, .int .u16 x.a.rigs, .slice (some ⟨g2, 0, none⟩) x.a.casts.length cap, .bool x.a.spare] 64)) V4.heap.size 64 (AcV.enc ⟨x.a, some ⟨g2, 0, none⟩, cap⟩) := Blk.new V4 64 _
        refine Dr.plan_e rfl (by rfl) (fun K hK => ?_)
        go_wp2_with fail
        refine hK _ _ (.of hbn) ?_; clear hK K
        have Hl5 := Lib.hid (Hl4.out.ext hbn)
        have hown5 := hown.ext hbn
        clear Hl4 hown hbn
        generalize V4.alloc (.cells #[.int .i64 x.a.min, .int .i64 x.a.ten, .int .u16 x.a.rigs, .slice (some ⟨g2, 0, none⟩) x.a.casts.length cap, .bool x.a.spare] 64) = V5 at *
        refine Dr.plan_done (tl := [_, _, _]) rfl ?_
        have hal : av.length = k := by
          have := congrArg List.length Hl5.out.eq
          simpa [Nat.min_eq_left (Nat.le_of_lt hlt)] using this
        refine app1 AcV.enc 34 64 5 56 et33 (by decide) (by decide) acv_len acv_one rfl _ _ rfl lo v av rfl Hl5.out.own V4.heap.size rfl ⟨x.a, some ⟨g2, 0, none⟩, cap⟩ (fun j u hj => hN.cell hj) (by omega) Hl5.out.lo.2 ?_
        intro g' cap' V6 hown6 hb6 hgr6 hat6
        have HF := Lib.hid (Hl5.out.snoc (x := ⟨x.a, some ⟨g2, 0, none⟩, cap⟩) hown5 hlt Hxa.out hwg hown6 hgr6)
        have hg6 : Blk V6 g 36 _ := (hgr6.block g Hl5.out.bx.lt (fun e => by
          have := own_ne Hl5.out.own Hl5.out.bx (by decide)
          rw [← e] at this
          simp at this)).trans Hl5.out.bx
        have z0 : V6.cell? ⟨g, 0, none⟩ = some v := hg6.cell (i := 0) rfl
        have z1 := hg6.free 0
        clear Hl5 hown5 hown6 hb6 hgr6 hN hg6 hat6
        go_frame
        go_wp2
        go_roundw
        case rel => exact ⟨k + 1, _, _, by go_num, by omega, by have := HF.out; rw [hal] at this; exact this⟩
        case measure => simp [intOf]; omega
      · obtain rfl : k = s.acts.length := by omega
        have hal : av.length = s.acts.length := by
          have := congrArg List.length hl.eq
          simpa using this
        obtain ⟨Av, cv, rfl, -, -, hcv⟩ := hl.own.cells acv_len
        have s0 : wr.cell? ⟨w.heap.size, 0, none⟩ = some (.slice p.A s.acts.length p.cA) := hl.sb.cell (i := 0) rfl
        have z0 : wr.cell? ⟨g, 0, none⟩ = some _ := hl.bx.cell (i := 0) rfl
        have z1 : wr.cell? ⟨g, 1, none⟩ = some _ := hl.bx.cell (i := 1) rfl
        have z2 : wr.cell? ⟨g, 2, none⟩ = some _ := hl.bx.cell (i := 2) rfl
        have z3 : wr.cell? ⟨g, 3, none⟩ = some _ := hl.bx.cell (i := 3) rfl
        have z4 : wr.cell? ⟨g, 4, none⟩ = some _ := hl.bx.cell (i := 4) rfl
        have z5 : wr.cell? ⟨g, 5, none⟩ = some _ := hl.bx.cell (i := 5) rfl
        have z6 : wr.cell? ⟨g, 6, none⟩ = some _ := hl.bx.cell (i := 6) rfl
        have hyb := hl.yb
        unfold zerC at hyb
        have y0 : wr.cell? ⟨w.heap.size + 1, 0, none⟩ = some _ := hyb.cell (i := 0) rfl
        have f0 := hyb.free 0
        have y1 : wr.cell? ⟨w.heap.size + 1, 1, none⟩ = some _ := hyb.cell (i := 1) rfl
        have f1 := hyb.free 1
        have y2 : wr.cell? ⟨w.heap.size + 1, 2, none⟩ = some _ := hyb.cell (i := 2) rfl
        have f2 := hyb.free 2
        have y3 : wr.cell? ⟨w.heap.size + 1, 3, none⟩ = some _ := hyb.cell (i := 3) rfl
        have f3 := hyb.free 3
        have y4 : wr.cell? ⟨w.heap.size + 1, 4, none⟩ = some _ := hyb.cell (i := 4) rfl
        have f4 := hyb.free 4
        have y5 : wr.cell? ⟨w.heap.size + 1, 5, none⟩ = some _ := hyb.cell (i := 5) rfl
        have f5 := hyb.free 5
        have y6 : wr.cell? ⟨w.heap.size + 1, 6, none⟩ = some _ := hyb.cell (i := 6) rfl
        have f6 := hyb.free 6
        have b0 := hyb.set 0 (.slice Av av.length cv)
        have b1 := b0.set 1 (.slice A9 s.rest.length c9)
        have b2 := b1.set 2 (.slice A13 s.ins.length c13)
        have b3 := b2.set 3 (.slice A17 s.outs.length c17)
        have b4 := b3.set 4 (.int .i64 s.cover)
        have b5 := b4.set 5 (.int .i64 s.dull)
        have b6 := b5.set 6 (.slice A25 s.before.length c25)
        have o7 : ∀ {α : Type} {e : TypeId} {sz : Nat} {enc : α → List Value} {v : Value} {l : List α} {bs : Nat}, OwnL wr bs e sz enc v l → (36 : Nat) ≠ e → OwnL (((((((wr.setCell ⟨w.heap.size + 1, 0, none⟩ (.slice Av av.length cv)).setCell ⟨w.heap.size + 1, 1, none⟩ (.slice A9 s.rest.length c9)).setCell ⟨w.heap.size + 1, 2, none⟩ (.slice A13 s.ins.length c13)).setCell ⟨w.heap.size + 1, 3, none⟩ (.slice A17 s.outs.length c17)).setCell ⟨w.heap.size + 1, 4, none⟩ (.int .i64 s.cover)).setCell ⟨w.heap.size + 1, 5, none⟩ (.int .i64 s.dull)).setCell ⟨w.heap.size + 1, 6, none⟩ (.slice A25 s.before.length c25)) bs e sz enc v l := fun h1 hne => OwnL.othr (OwnL.othr (OwnL.othr (OwnL.othr (OwnL.othr (OwnL.othr (OwnL.othr (h1) hyb hne 0 _) b0 hne 1 _) b1 hne 2 _) b2 hne 3 _) b3 hne 4 _) b4 hne 5 _) b5 hne 6 _
        have hbl7 : Below w.heap.size w (((((((wr.setCell ⟨w.heap.size + 1, 0, none⟩ (.slice Av av.length cv)).setCell ⟨w.heap.size + 1, 1, none⟩ (.slice A9 s.rest.length c9)).setCell ⟨w.heap.size + 1, 2, none⟩ (.slice A13 s.ins.length c13)).setCell ⟨w.heap.size + 1, 3, none⟩ (.slice A17 s.outs.length c17)).setCell ⟨w.heap.size + 1, 4, none⟩ (.int .i64 s.cover)).setCell ⟨w.heap.size + 1, 5, none⟩ (.int .i64 s.dull)).setCell ⟨w.heap.size + 1, 6, none⟩ (.slice A25 s.before.length c25)) := ((((((hl.bl.setCell (by simp) _).setCell (by simp) _).setCell (by simp) _).setCell (by simp) _).setCell (by simp) _).setCell (by simp) _).setCell (by simp) _
        have HO := Lib.hid (And.intro (o7 hl.own (by decide)) (And.intro (o7 hl.r9 (by decide)) (And.intro (o7 hl.r13 (by decide)) (And.intro (o7 hl.r17 (by decide)) (o7 hl.r25 (by decide))))))
        have HC := Lib.hid (fun x hx => o7 (hl.cs x hx) (by decide))
        have HE := Lib.hid hl.eq
        have Hal := Lib.hid hal
        have Hb7 := Lib.hid hbl7
        have hb6 : Blk (((((((wr.setCell ⟨w.heap.size + 1, 0, none⟩ (.slice Av av.length cv)).setCell ⟨w.heap.size + 1, 1, none⟩ (.slice A9 s.rest.length c9)).setCell ⟨w.heap.size + 1, 2, none⟩ (.slice A13 s.ins.length c13)).setCell ⟨w.heap.size + 1, 3, none⟩ (.slice A17 s.outs.length c17)).setCell ⟨w.heap.size + 1, 4, none⟩ (.int .i64 s.cover)).setCell ⟨w.heap.size + 1, 5, none⟩ (.int .i64 s.dull)).setCell ⟨w.heap.size + 1, 6, none⟩ (.slice A25 s.before.length c25)) (w.heap.size + 1) 36 [.slice Av av.length cv, .slice A9 s.rest.length c9, .slice A13 s.ins.length c13, .slice A17 s.outs.length c17, .int .i64 s.cover, .int .i64 s.dull, .slice A25 s.before.length c25] := b6
        have HB6 := Lib.hid hb6
        clear b0 b1 b2 b3 b4 b5 b6 hb6 o7 hbl7 hl hal hyb hcv
        go_wp2
        generalize (((((((wr.setCell _ _).setCell _ _).setCell _ _).setCell _ _).setCell _ _).setCell _ _).setCell _ _) = V at *
        have k0 : V.cell? ⟨w.heap.size + 1, 0, none⟩ = some _ := HB6.out.cell (i := 0) rfl
        have k1 : V.cell? ⟨w.heap.size + 1, 1, none⟩ = some _ := HB6.out.cell (i := 1) rfl
        have k2 : V.cell? ⟨w.heap.size + 1, 2, none⟩ = some _ := HB6.out.cell (i := 2) rfl
        have k3 : V.cell? ⟨w.heap.size + 1, 3, none⟩ = some _ := HB6.out.cell (i := 3) rfl
        have k4 : V.cell? ⟨w.heap.size + 1, 4, none⟩ = some _ := HB6.out.cell (i := 4) rfl
        have k5 : V.cell? ⟨w.heap.size + 1, 5, none⟩ = some _ := HB6.out.cell (i := 5) rfl
        have k6 : V.cell? ⟨w.heap.size + 1, 6, none⟩ = some _ := HB6.out.cell (i := 6) rfl
        refine bodyPost_ret (v := .agg #[.slice Av av.length cv, .slice A9 s.rest.length c9, .slice A13 s.ins.length c13, .slice A17 s.outs.length c17, .int .i64 s.cover, .int .i64 s.dull, .slice A25 s.before.length c25]) (by simp [results, Tryz.results9, go_sem, k0, k1, k2, k3, k4, k5, k6]) rfl ?_
        obtain ⟨o1, o2, o3, o4, o5⟩ := HO.out
        have HO2 := HE.out
        rw [List.take_length] at HO2
        have cl : ∀ {α : Type} {e : TypeId} {sz : Nat} {enc : α → List Value} {A : Option Addr} {n c : Nat} {l : List α} {bs : Nat}, (∀ x, (enc x).length = sz) → OwnL V bs e sz enc (.slice A n c) l → Cells V A sz enc l := fun hen ho => by
          obtain ⟨A, c, e, -, -, hc⟩ := ho.cells hen
          cases e
          exact hc
        refine ⟨⟨⟨av, Av, A9, A13, A17, A25, cv, c9, c13, c17, c25⟩, by rw [Hal.out], ⟨HO2, cl acv_len o1, fun x hx => cl encU_len (HC.out x hx), cl encI_len o2, cl encI_len o3, cl encI_len o4, cl encP_len o5, Hh.out.bits, Hh.out.small⟩⟩, Hb7.out⟩
end Go.Proofs.YtilkoooahoecfaaGreat

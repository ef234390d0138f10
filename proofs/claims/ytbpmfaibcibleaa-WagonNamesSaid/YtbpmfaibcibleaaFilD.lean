/- Walks: Fill, of the program and of the document. -/
import Derived.Test.YtbpmfaibcibleaaWaD
import Derived.Test.YtbpmfaibcibleaaSeaD
import Derived.Test.YtbpmfaibcibleaaPkdP
import Derived.Test.YtbpmfaibcibleaaFilM
import Derived.Test.YtbpmfaibcibleaaSeaG
import Derived.Test.YtbpmfaibcibleaaLhpB
import Derived.Test.YtbpmfaibcibleaaSorW
import Derived.Test.YtbpmfaibcibleaaPkdB
/- Walks: slices.Values, AppendSeq, Collect, Sorted of a row of ints. -/
namespace Go.Bs
open Go.RowKit
theorem cells_kept {α : Type} {n₀ : Nat} {w w' : World} {A : Option Addr} {sz : Nat} {enc : α → List Value} {l : List α} (h : Cells w A sz enc l) (hb : Below n₀ w w') (hA : ∀ k, A.map (·.block) = some k → k < n₀) : Cells w' A sz enc l :=
  h.keep (fun _ _ hq => hb.cell (hA _ hq))
theorem below_put {n₀ : Nat} {w : World} (hn : n₀ ≤ w.heap.size) (W : World) (l : Nat) (o o' : Obj) (hl : w.heap.size ≤ l) (_ : W.heap[l]? = some o) (_ : o.isCells = false) (_ : o.isWalk = false) : Below n₀ W (W.putObj l o') :=
  ⟨rfl, rfl, rfl, by simp, fun k hk => World.putObj_heap_other (by omega)⟩
theorem OwnL.walk {α : Type} {W W' : World} {base e sz : Nat} {enc : α → List Value} {v : Value} {l : List α} {row : Option Nat} (h : OwnL W base e sz enc v l) (hg : W.grownBy W' row) (hr : ∀ r, row = some r → ∃ o : Obj, W.heap[r]? = some o ∧ o.isCells = false) : OwnL W' base e sz enc v l := by
  refine h.kept hg ?_
  by_cases hv : v.ownBlock = none
  · exact .inl hv
  · refine .inr fun hc => ?_
    obtain ⟨g, hgv⟩ := Option.ne_none_iff_exists'.1 hv
    obtain ⟨o, h1, h2⟩ := hr g (by rw [← hc, hgv])
    rcases h.2 with ⟨rfl, -⟩ | ⟨g', cap, cur, rfl, -, hg2, -⟩
    · cases hgv
    · simp only [Value.ownBlock] at hgv
      cases hgv
      rw [hg2] at h1
      cases h1
      cases h2
theorem OwnL.own_cells {α : Type} {W : World} {base e sz : Nat} {enc : α → List Value} {v : Value} {l : List α} {k : Nat} (h : OwnL W base e sz enc v l) (hk : v.ownBlock = some k) : ∃ cur, W.heap[k]? = some (.cells cur e) := by
  rcases h.2 with ⟨rfl, -⟩ | ⟨g', cap, cur, rfl, -, hg2, -⟩
  · cases hk
  · simp only [Value.ownBlock] at hk
    cases hk
    exact ⟨cur, hg2⟩
end Go.Bs
namespace Go.Proofs.Ytbpmfaibcibleaa
open Go.RowKit Go.Bs Go.Wg Go.Pl Go.Sort
theorem values_any (A : Option Addr) (n cap : Nat) (w : World) :
    Calls Try.prog 90 #[.slice A n cap] w fun e w' => e = .returned (.func (.func 113) #[] #[.pointer (some ⟨w.heap.size, 0, none⟩)]) ∧ Blk w' w.heap.size 35 [.slice A n cap] ∧ Below w.heap.size w w' := by
  have h1 := Blk.new w 35 [.slice A n cap]
  have hb := ext_alloc w (.cells #[.slice A n cap] 35)
  go_enter Try.func90, Try.ntmps90
  go_wp2
  go_ret
  exact ⟨rfl, h1, hb⟩
section
attribute [local go_sem] Oper.semAt_some
set_option maxRecDepth 100000 in
set_option maxHeartbeats 2000000 in
theorem values_next (q : List Int) (F : Fence) (m : Nat) (h : F.fn 113) (hro : F.round = none) (hm : 1 ≤ m) (Bs n₀ n cap : Nat) (A : Option Addr) (hn : q.length = n) (hn9 : n ≤ 1000000000) (hA : ∀ k, A.map (·.block) = some k → k < n₀) (w : World) (hn0 : n₀ ≤ w.heap.size)
    (hBs0 : Blk w Bs 35 [.slice A n cap]) (hc0 : Cells w A 1 Go.Bs.encI q) :
    SeqNext F m Try.prog 113 #[.pointer (some ⟨Bs, 0, none⟩)] (fun x : Int => #[Value.int .i64 x]) (Below n₀) (fun ys => ys = q) (fun pre x => ∃ r, q = pre ++ x :: r) w := by
  intro l J W hW hY h0
  have hBs := hBs0.ext hW
  have hc := hc0.ext hW
  have hnW : n₀ ≤ W.heap.size := Nat.le_trans hn0 hW.size
  clear hW hBs0 hc0
  have Hn := Lib.hid hn
  clear hn
  refine callsIn_of_wp Try.func113 rfl h ?_ hro
  simp only [Try.ntmps113, List.size_toArray, List.length_cons, List.length_nil, Nat.reduceAdd, Nat.reduceSub, Array.replicate_succ, Array.replicate_zero, List.push_toArray, List.append_toArray, List.nil_append, List.cons_append]
  have x0 : W.cell? ⟨Bs, 0, none⟩ = _ := hBs.cell rfl
  gi_wp2
  gi_loopw [7] (fun i wr => ∃ k : Nat, i = .int .i64 k ∧ k ≤ n ∧ J (q.take k) wr ∧ Below n₀ W wr)
    (fun i _ => n - (intOf i).toNat)
  case atStart => exact ⟨0, rfl, Nat.zero_le _, h0, Below.refl _ _⟩
  case round =>
    obtain ⟨k, rfl, hk, hJs, hnx⟩ := hrel
    by_cases hlt : k < n
    · have hkn : (k : Int) < n := by omega
      have hkq : k < q.length := by rw [Hn.out]; exact hlt
      have hcw : Cells wr A 1 Go.Bs.encI q := cells_kept hc hnx hA
      obtain ⟨b, off, rfl, -, c0⟩ := hcw.at1 hkq rfl
      obtain ⟨fn, tmps, assign, body, hy, hR⟩ := hY (q.take k) q[k] wr hJs ⟨q.drop (k + 1), by rw [← List.drop_eq_getElem_cons hkq, List.take_append_drop]⟩
      have Hts := Lib.hid (show q.take k ++ [q[k]] = q.take (k + 1) from (List.take_succ_eq_append_getElem hkq).symm)
      clear hcw hJs
      generalize q[k] = y at *
      gi_wp2
      refine hR.mono ?_
      rintro e W3 ⟨rfl, hJ3, hk3⟩
      rw [Hts.out] at hJ3
      have HJ3 := Lib.hid hJ3
      clear hJ3
      gi_wp2
      go_roundw
      case rel => exact ⟨k + 1, by go_num, by omega, HJ3.out, hnx.trans hk3⟩
      case measure => simp [intOf]; omega
    · obtain rfl : n = k := by omega
      have HJ := Lib.hid (show J q wr by rw [List.take_of_length_le (by rw [Hn.out]; exact Nat.le_refl _)] at hJs; exact hJs)
      clear hJs
      gi_wp2
      go_end0
      exact ⟨⟨_, rfl⟩, _, rfl, HJ.out⟩
set_option maxRecDepth 100000 in
set_option maxHeartbeats 4000000 in
theorem appendSeq_any (q : List Int) (g : Nat) (lb : Array Value) (w : World) (eg : Enters Try.prog g) (hq : q.length ≤ 1000000) (hseq : ∀ W, Below w.heap.size w W → SeqNext Fence.wide 19 Try.prog g lb (fun x : Int => #[Value.int .i64 x]) (Below w.heap.size) (fun ys => ys = q) (fun pre x => ∃ r, q = pre ++ x :: r) W) :
    Calls Try.prog 127 #[.slice none 0 0, .func (.func g) #[] lb] w fun e w' => ∃ v, e = .returned v ∧ OwnL w' w.heap.size 3 1 Go.Bs.encI v q ∧ Below w.heap.size w w' := by
  have h1 := Blk.new w 35 [.slice none 0 0]
  have hb := ext_alloc w (.cells #[.slice none 0 0] 35)
  have hz := w.size_alloc (.cells #[.slice none 0 0] 35)
  unfold Enters at eg
  refine (callsIn_wide (n := 20)).1 (callsIn_of_wp_marks Try.func127 rfl trivial ?_)
  simp only [Try.ntmps127, List.size_toArray, List.length_cons, List.length_nil, Nat.reduceAdd, Nat.reduceSub, Array.replicate_succ, Array.replicate_zero, List.push_toArray, List.append_toArray, List.nil_append, List.cons_append]
  refine wpIn_wide.2 ?_
  go_wp2
  change Blk (w.alloc (.cells #[.slice none 0 0] 35)) _ _ _ at h1
  generalize w.alloc (.cells #[.slice none 0 0] 35) = W0 at *
  generalize ha : Act.mk _ _ = a0
  refine wpIn_wide.1 (range_next (F := Fence.wide) (n := 20) rfl (by omega) (gf := g) (lb := lb) (by rw [← ha]; rfl) trivial eg
    (hseq W0 hb)
    (fun h k => h.trans k) (below_put hb.size) (fun _ => rfl)
    (fun pre W => ∃ v, Blk W w.heap.size 35 [v] ∧ OwnL W (w.heap.size + 1) 3 1 Go.Bs.encI v pre ∧ Below w.heap.size w W ∧ W0.heap.size ≤ W.heap.size) ?own ⟨_, h1, OwnL.nil, hb, Nat.le_refl _⟩
    (fun x a' W => a' = { tmps := (a0.tmps.setIfInBounds 7 (.int .i64 x)).setIfInBounds 5 (.int .i64 x), defers := [] })
    (fun x a' _ X Y row hs hg hr => hs)
    ?assign ?body ?done)
  case own =>
    rintro pre X Y row ⟨v, hB, ho, hbl, hsz⟩ hg hr
    have hr' : ∀ r, row = some r → ∃ o : Obj, X.heap[r]? = some o ∧ o.isCells = false := fun r e => (hr r e).2
    refine ⟨v, ?_, ho.walk hg hr', hbl.trans (below_of_grown hg (fun r e => by have := (hr r e).1; omega) hbl.size), Nat.le_trans hsz hg.size⟩
    refine (hg.block _ hB.lt (fun e => ?_)).trans hB
    obtain ⟨o, h3, h4⟩ := hr' _ e.symm
    rw [show X.heap[w.heap.size]? = _ from hB] at h3
    cases h3; cases h4
  case assign =>
    subst ha
    rintro l pre x W K hi hK
    gi_wp2
    exact hK _ _ (KeepsFrom.refl _ _) (Below.refl _ _) hi rfl
  case body =>
    subst ha
    rintro l pre x a' W hl ⟨v, hB, ho, hbl, hsz⟩ rfl ⟨r, hr⟩
    simp only [List.setIfInBounds_toArray, List.set_cons_succ, List.set_cons_zero]
    have hpl : pre.length ≤ 1000000 := by rw [hr, List.length_append] at hq; omega
    clear hr
    have x0 : W.cell? ⟨w.heap.size, 0, none⟩ = _ := hB.cell rfl
    have nw := Blk.new W 3 [.int .i64 x]
    gi_upto_region 3 with fail
    refine Dr.wpIn_region_of rfl ?q3 (by kernel_rfl) ?_
    case q3 => rintro ⟨_, _, ⟨⟩, -⟩
    go_wp2_with (at_builtin; refine app1 Go.Bs.encI 35 3 1 8 et35 (by decide) (by decide) Go.Bs.encI_len Go.Bs.encI_one rfl _ _ rfl (w.heap.size + 1) _ pre rfl (ho.alloc _) W.heap.size rfl x (Go.Bs.encI_cell (nw.cell rfl)) hpl (by simp; omega) ?_; intro g' cap' w' hown hb2 hg hat; have hB2 : Blk w' w.heap.size 35 [v] := (hb2.block _ (by omega)).trans (hB.alloc _); have x1 : w'.cell? ⟨w.heap.size, 0, none⟩ = _ := hB2.cell rfl; have f1 := hB2.free 0; have hl1 := hB2.lt)
    have hx1 := ext_alloc W (.cells #[.int .i64 x] 3)
    have hz0 := hb.size
    have hlt : w.heap.size < W.heap.size := by omega
    have hbA : Below w.heap.size W w' := (hx1.mono (by omega)).trans ((Below.refl _ _).grown hg (by have := hx1.size; omega) (fun k hk => by have := (ho.lt hk).1; omega))
    refine ⟨⟨?_, fun k o hk h0 hnc => ?_⟩, ?_, _, hB2.set 0 _, hown.put ?_ _, ?_, ?_⟩
    · have h3 := hg.size
      have h4 := hx1.size
      rw [World.size_setCell]
      omega
    · have hk2 : k < W.heap.size := (Array.getElem?_eq_some_iff.1 h0).1
      rw [Below.heap_setCell _ _ _ k (by simp; omega), hg.block k (by have := hx1.size; omega) (fun e => ?_), hx1.block k hk2]
      · exact h0
      · obtain ⟨cur, hc⟩ := ho.own_cells e.symm
        rw [h0] at hc
        cases hc
        cases hnc
    · exact hbA.setCell (p := ⟨w.heap.size, 0, none⟩) (Nat.le_refl _) _
    · have h5 := (hown.lt (k := g') rfl).1
      intro e
      have e2 : g' = w.heap.size := by simpa [Value.ownBlock] using e
      omega
    · exact (hbl.trans hbA).setCell (p := ⟨w.heap.size, 0, none⟩) (Nat.le_refl _) _
    · have h3 := hg.size
      have h4 := hx1.size
      rw [World.size_setCell]
      omega
  case done =>
    subst ha
    rintro D ys W hD rfl ⟨v, hB, ho, hbl, hsz⟩ hK
    have x0 : W.cell? ⟨w.heap.size, 0, none⟩ = _ := hB.cell rfl
    go_wp2
    refine ⟨by simp, .inl ⟨_, _, rfl, run_takeDeferred hK, ?_⟩⟩
    have hrow : ∀ r, some D = some r → ∃ o : Obj, W.heap[r]? = some o ∧ o.isCells = false := fun r e => by cases e; exact ⟨_, hK, rfl⟩
    refine ⟨v, by simp [results, Try.results127, go_sem], v, rfl, ?_, ?_⟩
    · exact ((ho.lower (by omega)).walk (grownBy_putObj' W D (.deferred none)) hrow)
    · exact hbl.trans (below_put (w := w) (Nat.le_refl _) W D _ _ (by omega) hK rfl rfl)
end
end Go.Proofs.Ytbpmfaibcibleaa

/- Walk: wagon.Fill. -/
namespace Go.Wg
open Go.RowKit Go.Bs Go.Pl
def FlR (ls : List Lo) (ts : List Th) (w : World) (e : Ending) (w' : World) : Prop :=
  Below w.heap.size w w' ∧ ∃ v, e = .returned (.tuple #[v, .int .i64 (fillRes ls ts).2]) ∧ PksV w' v (fillRes ls ts).1
theorem FlR.mk {ls : List Lo} {ts : List Th} {w w' : World} {v : Value} {P : List (List (List Int))} {c : Int} (h : fillRes ls ts = (P, c)) (hb : Below w.heap.size w w') (hv : PksV w' v P) : FlR ls ts w (.returned (.tuple #[v, .int .i64 c])) w' := ⟨hb, v, by rw [h], by rw [h]; exact hv⟩
/-- between two trials -/
def TryI (l : Lo) (ts : List Th) (rest : List Int) (W0 : World) (b : Value) (m : Nat) (W : World) : Prop :=
  m ≤ limF rest ∧ (∀ k, k < m → (tryL l ts rest (k + 1)).isSome = true) ∧ RowsV W0 W b (bestN l ts rest m) ∧ Below W0.heap.size W0 W
/-- behind the last trial -/
def TryD (l : Lo) (ts : List Th) (rest : List Int) (W0 : World) (b : Value) (m : Nat) (W : World) : Prop :=
  m = manyF l ts rest ∧ RowsV W0 W b (bestF l ts rest) ∧ Below W0.heap.size W0 W
theorem TryI.done {l : Lo} {ts : List Th} {rest : List Int} {W0 W W' : World} {b : Value} {m : Nat} (h : TryI l ts rest W0 b m W) (hb : Below W.heap.size W W') (he : m = limF rest ∨ tryL l ts rest (m + 1) = none) : TryD l ts rest W0 b m W' := by
  obtain ⟨h1, h2, h3, h4⟩ := h
  have e := many_eq h1 h2 he
  exact ⟨e.symm, by unfold bestF; rw [e]; exact h3.ext hb, h4.trans (hb.mono h4.size)⟩
theorem TryI.next {l : Lo} {ts : List Th} {rest : List Int} {W0 W W' : World} {b v : Value} {m : Nat} {P : List (List Int)} (h : TryI l ts rest W0 b m W) (hb : Below W.heap.size W W') (hm : m < limF rest) (hP : tryL l ts rest (m + 1) = some P) (hv : RowsV W0 W' v P) : TryI l ts rest W0 v (m + 1) W' := by
  obtain ⟨h1, h2, h3, h4⟩ := h
  refine ⟨hm, fun k hk => ?_, ?_, h4.trans (hb.mono h4.size)⟩
  · by_cases e : k = m
    · rw [e, hP]; rfl
    · exact h2 k (by omega)
  · have e : bestN l ts rest (m + 1) = P := by show (tryL l ts rest (m + 1)).getD [] = P; rw [hP]; rfl
    rw [e]; exact hv
theorem TryI.start {l : Lo} {ts : List Th} {rest : List Int} {W0 W : World} {b : Value} (hb : Below W0.heap.size W0 W) (hv : RowsV W0 W b (List.replicate l.lanes.length [])) : TryI l ts rest W0 b 0 W := ⟨by omega, by omega, hv, hb⟩
/-- empty rows, new -/
theorem rows_new {W : World} {n : Nat} {O : Nat} {b0 : Nat} (h : RwJ b0 W O (List.replicate n []) (List.replicate n (Value.slice none 0 0))) {w : World} (hO : w.heap.size ≤ O) (h0 : w.heap.size ≤ b0) : RowsV w W (.slice (some ⟨O, 0, none⟩) n n) (List.replicate n []) := by
  obtain ⟨rs, hrs, hM, hl, hn⟩ := h.rows
  rw [List.length_replicate] at hl
  exact ⟨_, n, rs, by rw [hl], hrs, hM, fun k hk => by simp at hk; omega, fun x hx k hk => by have := hn x hx k hk; omega⟩
end Go.Wg
namespace Go.Proofs.Ytbpmfaibcibleaa
open Go.RowKit Go.Bs Go.Wg Go.Pl Go.Sort
theorem need_key (x : Int) (P : Nat) (T : Option Addr) (n cT : Nat) (ts : List Th) (W : World) (hn : ts.length = n) (hP : Blk W P 46 [.slice T n cT]) (ht : Cells W T 4 Th.enc ts) (hx : 0 ≤ x ∧ x < ts.length) :
    Calls Try.prog 88 #[.int .i64 x, .pointer (some ⟨P, 0, none⟩)] W fun e w' => e = .returned (.int .i64 (nk ts x)) ∧ W = w' := by
  obtain ⟨j, rfl⟩ : ∃ j : Nat, x = j := ⟨x.toNat, by omega⟩
  have hjt : j < ts.length := by omega
  have hjn : j < n := by omega
  unfold nk
  rw [thAt_eq hjt]
  have y0 : W.cell? ⟨P, 0, none⟩ = _ := hP.cell (i := 0) rfl
  obtain ⟨b, off, hT, -, -, -, -, d3⟩ := ht.at4 hjt rfl
  rw [hT] at y0
  have hlt := hP.lt
  clear hP ht hT hn
  generalize ts[j].need = m at *
  go_enter Try.func88, Try.ntmps88
  go_wp2
  go_ret
  exact ⟨rfl, rfl⟩
theorem sorted_any (A : Option Addr) (n c : Nat) (l : List Int) (w : World) (hn : l.length = n) (hn1 : n ≤ 1000000) (hc : Cells w A 1 Go.Bs.encI l) (hne : l ≠ []) (B : Nat) (hB : Blk w B 35 [.slice A n c]) :
    Calls Try.prog 89 #[.func (.func 113) #[] #[.pointer (some ⟨B, 0, none⟩)]] w fun e w' => ∃ v, e = .returned v ∧ OwnL w' w.heap.size 3 1 Go.Bs.encI v (srtL l) ∧ Below w.heap.size w w' := by
  have hA := cells_lt' hc Go.Bs.encI_len (by decide) hne
  have C := Lib.hid (appendSeq_any l 113 #[.pointer (some ⟨B, 0, none⟩)] w (enters_of Try.func113 (by kernel_rfl) rfl) (by omega) (fun W hW => values_next l Fence.wide 19 trivial rfl (by omega) B w.heap.size n c A hn (by omega) hA W hW.size (hB.ext hW) (hc.ext hW)))
  have C2 : Hid (Calls Try.prog 112 #[.func (.func 113) #[] #[.pointer (some ⟨B, 0, none⟩)]] w fun e w' => ∃ v, e = .returned v ∧ OwnL w' w.heap.size 3 1 Go.Bs.encI v l ∧ Below w.heap.size w w') := Lib.hid (by
    go_enter Try.func112, Try.ntmps112
    go_wp2_with fail
    refine C.out.mono ?_; rintro e w1 ⟨v, rfl, ho, hb⟩
    go_wp2
    go_ret
    exact ⟨v, rfl, ho, hb⟩)
  clear C hc hB hA hne
  go_enter Try.func89, Try.ntmps89
  go_wp2_with fail
  refine C2.out.mono ?_; rintro e w1 ⟨v, rfl, ho, hb⟩
  have C3 := Lib.hid (sort_own w.heap.size v l w1 ho (by omega))
  go_wp2_with fail
  refine C3.out.mono ?_; rintro e w2 ⟨rfl, ho2, hg⟩
  have hb2 : Below w.heap.size w w2 := hb.grown hg hb.size (fun k hk => (ho.lt hk).1)
  go_wp2
  go_ret
  exact ⟨v, rfl, ho2, hb2⟩
set_option maxRecDepth 100000 in
set_option maxHeartbeats 8000000 in
theorem Fill_any (L : Option Addr) (m cL : Nat) (ls : List LoV) (T : Option Addr) (n cT : Nat) (ts : List Th) (w : World) (hm : ls.length = m) (hm1 : m ≤ 1000000) (hM : LsM w L ls) (hl1 : ∀ x ∈ ls, x.l.lanes.length ≤ 1000000) (hn : ts.length = n) (hn1 : n ≤ 1000000) (ht : Cells w T 4 Th.enc ts) (hn2 : n ≤ 20 ∨ 40 < n) :
    Calls Try.prog 59 #[.slice L m cL, .slice T n cT] w (FlR (ls.map LoV.l) ts w) := by
  have CA := Lib.hid (fun V (hV : Below w.heap.size w V) => all_lo 79 #[] #[] (fun x => x.l.okB) L m cL ls V (enters_of Try.func79 (by kernel_rfl) rfl) hm (by omega) (hM.hdr.ext hV) (fun W x hx hW => lovalid_any x W (by have := hl1 x hx; omega) ((hM.row x hx).ext (ext_trans hV hW))))
  have CG := Lib.hid (fun V (hV : Below w.heap.size w V) => cargo_any ts T n cT 40 V hn (by omega) (ht.ext hV))
  have CW := Lib.hid (fun V => within_any (m : Int) 1 6 V)
  have Hres := Lib.hid (show fillRes (ls.map LoV.l) ts = if btw m 1 6 && ls.all (fun x => x.l.okB) then (if cargoE ts 40 = 0 then (if fillR ts (ls.map LoV.l) (byNeed ts) = [] then (fillP ts (ls.map LoV.l) (byNeed ts), 0) else ([], 7)) else ([], cargoE ts 40)) else ([], 1) by
    unfold fillRes; rw [List.length_map, hm, List.all_map]; rfl)
  generalize hb1 : btw (m : Int) 1 6 = b1 at *
  generalize hb2 : (ls.all fun x => x.l.okB) = b2 at *
  have Hb1 := Lib.hid hb1
  have Hb2 := Lib.hid hb2
  have Hm := Lib.hid hm
  have HM := Lib.hid hM
  have Hn := Lib.hid hn
  have Ht := Lib.hid ht
  have Hl1 := Lib.hid hl1
  clear hb1 hb2 hm hM hn ht hl1
  have hb := ext_alloc w (.cells #[.slice T n cT] 46)
  have hP := Blk.new w 46 [.slice T n cT]
  go_enter Try.func59, Try.ntmps59
  go_upto_region 1 with fail
  change Blk (w.alloc (.cells #[.slice T n cT] 46)) _ _ _ at hP
  change Below w.heap.size w (w.alloc (.cells #[.slice T n cT] 46)) at hb
  generalize w.alloc (.cells #[.slice T n cT] 46) = W0 at *
  go_wp2_with fail
  refine (CW.out _).mono ?_; rintro e W1 ⟨rfl, rfl⟩
  clear CW
  cases b1 with
  | false =>
    have Hr := Lib.hid (show fillRes (ls.map LoV.l) ts = ([], 1) by rw [Hres.out]; rfl)
    go_wp2
    go_ret2
    exact FlR.mk Hr.out hb (PksV.nil _)
  | true =>
  go_wp2_with fail
  refine (CA.out _ hb).mono ?_; rintro e W1 ⟨rfl, hx⟩
  replace hb := ext_trans hb hx
  replace hP := hP.ext hx
  clear hx CA
  cases b2 with
  | false =>
    have Hr := Lib.hid (show fillRes (ls.map LoV.l) ts = ([], 1) by rw [Hres.out]; rfl)
    go_wp2
    go_ret2
    exact FlR.mk Hr.out hb (PksV.nil _)
  | true =>
  have q0 : W1.cell? ⟨w.heap.size, 0, none⟩ = _ := hP.cell rfl
  generalize hce : cargoE ts 40 = ce at *
  have Hce := Lib.hid hce
  clear hce
  go_wp2_with fail
  refine (CG.out _ hb).mono ?_; rintro e W2 ⟨rfl, hx⟩
  replace hb := ext_trans hb hx
  replace hP := hP.ext hx
  clear hx CG q0
  by_cases h0 : ce = 0
  case neg =>
    have h00 : (ce != 0) = true := bne_iff_ne.2 h0
    have Hr := Lib.hid (show fillRes (ls.map LoV.l) ts = ([], ce) by rw [Hres.out]; simp [h0])
    clear h0
    go_wp2
    go_ret2
    exact FlR.mk Hr.out hb (PksV.nil _)
  case pos =>
  subst h0
  have h00 : ((0 : Int) != 0) = false := rfl
  obtain ⟨h40, hok⟩ := cargoE_zero.1 Hce.out
  have Hok := Lib.hid hok
  have hlo : ∀ x ∈ ls, x.l.Ok := fun x hx => Lo.ok_iff.1 (List.all_eq_true.1 Hb2.out x hx)
  have Hlo := Lib.hid hlo
  have hn20 : n ≤ 20 := by have := Hn.out; omega
  have Hr0 := Lib.hid (show fillRes (ls.map LoV.l) ts = if fillR ts (ls.map LoV.l) (byNeed ts) = [] then (fillP ts (ls.map LoV.l) (byNeed ts), 0) else ([], 7) by rw [Hres.out]; rfl)
  clear hok hlo h40 Hres Hce Hb1 Hb2
  have q0 : W2.cell? ⟨w.heap.size, 0, none⟩ = _ := hP.cell rfl
  go_wp2_with fail
  refine (numbers_any n W2 hn1).mono ?_; rintro e W3 ⟨capN, rfl, hc1, hc2, hB3, hx3⟩
  have hb3 := ext_trans hb hx3
  have hP3 := hP.ext hx3
  have hNn : w.heap.size < W2.heap.size := hP.lt
  generalize hNe : W2.heap.size = N at *
  clear hP hb q0
  have CR := Lib.hid (ranked_any 88 #[.pointer (some ⟨w.heap.size, 0, none⟩)] (nk ts) N 3 n capN (upto n) [] W3 (enters_of Try.func88 (by kernel_rfl) rfl) (upto_len n) hn20 (by simpa using hB3)
    (fun W x hx hW => (need_key x w.heap.size T n cT ts W Hn.out (hW.blk hP3 (by simp; omega)) (Dr.cells_bel (Ht.out.ext hb3) hW (fun k hk => by
      by_cases he : ts = []
      · have h9 := mem_upto.1 hx
        rw [← Hn.out, he] at h9
        simp at h9
        omega
      · have := cells_lt' Ht.out th_len (by decide) he k hk
        simp
        omega)) (by rw [Hn.out]; exact mem_upto.1 hx)).mono (by rintro e w' ⟨rfl, rfl⟩; exact ⟨rfl, Below.refl _ _⟩))
    (fun x hx => by
      have h9 := mem_upto.1 hx
      have h8 := (Hok.out _ (thAt_mem h9.1 (by rw [Hn.out]; exact h9.2))).need
      unfold nk
      omega))
  have hNW : N < W3.heap.size := hB3.lt
  go_wp2_with fail
  refine CR.out.mono ?_; rintro e W4 ⟨rfl, hbl4, hB4⟩
  have hb4 : Below w.heap.size w W4 := hb3.trans (hbl4.old hb3.size (by simp; omega))
  have hP4 := hbl4.blk hP3 (by simp; omega)
  rw [List.append_nil, show sortL (fun a b => nk ts a - nk ts b) (upto n) = byNeed ts from by unfold byNeed rankL; rw [Hn.out]] at hB4
  have hcN : Cells W4 (some ⟨N, 0, none⟩) 1 Go.Bs.encI (byNeed ts) := IArr.cells hB4
  clear CR hB3 hP3 hb3 hbl4 hB4 hx3
  have hbyl : (byNeed ts).length = n := by rw [byNeed_len, Hn.out]
  have Hin0 := Lib.hid (byNeed_in ts)
  have HM4 := Lib.hid (HM.out.ext hb4)
  have Ht4 := Lib.hid (Ht.out.ext hb4)
  generalize hby : byNeed ts = by0 at *
  clear hby
  have Hbyl := Lib.hid hbyl
  have Hb4 := Lib.hid hb4
  have hw4 : w.heap.size ≤ W4.heap.size := hb4.size
  clear hbyl hb4
  go_upto_region 9 with fail
  go_wp2
  go_loopw [7, 8, 40] (fun r o t wr => ∃ (k : Nat) (A : Option Addr) (rn c' : Nat) (rest : List Int) (ps : List PkV), t = .int .i64 k ∧ k ≤ m ∧ r = .slice A rn c' ∧ rn ≤ c' ∧ Hid (rest.length = rn) ∧ rn ≤ 20 ∧ Hid (Cells W4 A 1 Go.Bs.encI rest) ∧ Hid (rest = fillR ts ((ls.map LoV.l).take k) by0) ∧ OwnL wr W4.heap.size 41 1 PkV.enc o ps ∧ PkJ wr o ps ∧ Hid (pks ps = fillP ts ((ls.map LoV.l).take k) by0) ∧ Below W4.heap.size W4 wr) (fun _ _ t _ => m - (intOf t).toNat)
  case atStart => exact ⟨0, _, n, capN, by0, [], rfl, by omega, rfl, hc1, Hbyl, hn20, Lib.hid hcN, Lib.hid rfl, OwnL.nil, PkJ.nil _ _, Lib.hid rfl, Below.refl _ _⟩
  case round =>
    obtain ⟨k, A, rn, c', rest, ps, rfl, hk, rfl, hrc, Hrl, hr20, Hrc, Hrest, ho, hj, Hpk, hbr⟩ := hrel
    by_cases hlt : k < m
    · have hlt' : (k : Int) < (m : Int) := by omega
      have hkl : k < ls.length := by rw [Hm.out]; exact hlt
      have hMr := HM4.out.ext hbr
      obtain ⟨b, off, hLe, -, d0, d1, d2, d3, d4, d5, d6⟩ := hMr.hdr.at7 hkl rfl
      have hrow := HM4.out.row _ (List.getElem_mem hkl)
      have hlox := Hlo.out _ (List.getElem_mem hkl)
      have Htk := Lib.hid (show (ls.map LoV.l).take (k + 1) = (ls.map LoV.l).take k ++ [ls[k].l] by
        rw [List.take_succ_eq_append_getElem (by rw [List.length_map]; exact hkl), List.getElem_map])
      obtain ⟨x, hx⟩ : ∃ x, ls[k] = x := ⟨_, rfl⟩
      rw [hx] at d0 d1 d2 d3 d4 d5 d6 hrow hlox Htk
      clear hx hMr
      obtain ⟨⟨lanes, h, ca, em, re, ax, dk⟩, xA, xc⟩ := x
      simp only at d0 d1 d2 d3 d4 d5 d6 hrow Htk
      have Hrow := Lib.hid hrow
      have Hlox := Lib.hid hlox
      have h6 : lanes.length ≤ 6 := hlox.many.2
      have Hpsl := Lib.hid (show ps.length = k by
        have h9 := congrArg List.length Hpk.out
        rw [pks_len, fillP_len, List.length_take, List.length_map, Hm.out] at h9
        omega)
      have hown : ∀ z, u8.ownBlock = some z → W4.heap.size ≤ z ∧ z < wr.heap.size := fun z hz => ho.lt hz
      have Hown := Lib.hid hown
      have HO := Lib.hid ho
      have HJ := Lib.hid hj
      clear hrow hlox hown ho hj
      subst hLe
      have hB5 := Blk.new wr 44 [.slice xA lanes.length xc, .int .i64 h, .int .i64 ca, .int .i64 em, .int .i64 re, .int .i64 ax, .int .i64 dk]
      have hx5 := ext_alloc wr (.cells #[.slice xA lanes.length xc, .int .i64 h, .int .i64 ca, .int .i64 em, .int .i64 re, .int .i64 ax, .int .i64 dk] 44)
      go_upto_region 12 with fail
      change Blk (wr.alloc (.cells #[.slice xA lanes.length xc, .int .i64 h, .int .i64 ca, .int .i64 em, .int .i64 re, .int .i64 ax, .int .i64 dk] 44)) _ _ _ at hB5
      generalize wr.alloc (.cells #[.slice xA lanes.length xc, .int .i64 h, .int .i64 ca, .int .i64 em, .int .i64 re, .int .i64 ax, .int .i64 dk] 44) = W5 at *
      clear d0 d1 d2 d3 d4 d5 d6
      have hP5 := (hP4.ext (hbr.mono (Nat.le_refl _))).ext hx5
      have q0 : W5.cell? ⟨wr.heap.size, 0, none⟩ = _ := hB5.cell rfl
      have q1 : W5.cell? ⟨wr.heap.size, 1, none⟩ = _ := hB5.cell rfl
      have q2 : W5.cell? ⟨wr.heap.size, 2, none⟩ = _ := hB5.cell rfl
      have q3 : W5.cell? ⟨wr.heap.size, 3, none⟩ = _ := hB5.cell rfl
      have q4 : W5.cell? ⟨wr.heap.size, 4, none⟩ = _ := hB5.cell rfl
      have q5 : W5.cell? ⟨wr.heap.size, 5, none⟩ = _ := hB5.cell rfl
      have q6 : W5.cell? ⟨wr.heap.size, 6, none⟩ = _ := hB5.cell rfl
      have p0 : W5.cell? ⟨w.heap.size, 0, none⟩ = _ := hP5.cell rfl
      have hB6 := Blk.new W5 108 [.slice xA lanes.length xc, .int .i64 h, .int .i64 ca, .int .i64 em, .int .i64 re, .int .i64 ax, .int .i64 dk, .slice T n cT]
      have hx6 := ext_alloc W5 (.cells #[.slice xA lanes.length xc, .int .i64 h, .int .i64 ca, .int .i64 em, .int .i64 re, .int .i64 ax, .int .i64 dk, .slice T n cT] 108)
      go_upto_region 13 with fail
      change Blk (W5.alloc (.cells #[.slice xA lanes.length xc, .int .i64 h, .int .i64 ca, .int .i64 em, .int .i64 re, .int .i64 ax, .int .i64 dk, .slice T n cT] 108)) _ _ _ at hB6
      have hB56 := hB5.ext hx6
      generalize W5.alloc (.cells #[.slice xA lanes.length xc, .int .i64 h, .int .i64 ca, .int .i64 em, .int .i64 re, .int .i64 ax, .int .i64 dk, .slice T n cT] 108) = W6 at *
      clear q0 q1 q2 q3 q4 q5 q6 p0
      have q0 : W6.cell? ⟨wr.heap.size, 0, none⟩ = _ := hB56.cell rfl
      have hmk := mk41 lanes.length (by omega)
      have hO := Blk.new W6 35 (List.replicate lanes.length (Value.slice none 0 0))
      have hx7 := ext_alloc W6 (.cells (List.replicate lanes.length (Value.slice none 0 0)).toArray 35)
      rw [List.toArray_replicate] at hx7
      go_upto_region 14 with fail
      clear hmk
      change Blk (W6.alloc (.cells (List.replicate lanes.length (Value.slice none 0 0)).toArray 35)) _ _ _ at hO
      rw [List.toArray_replicate] at hO
      have HV := Lib.hid (rows_new (w := W6) (RwJ.start (b0 := W6.heap.size) hO (Nat.le_refl _)) (Nat.le_refl _) (Nat.le_refl _))
      generalize W6.alloc (.cells (Array.replicate lanes.length (Value.slice none 0 0)) 35) = W7 at *
      clear q0 hO hB5 hB56 hP5
      have hbr6 : Below wr.heap.size wr W6 := ext_trans hx5 hx6
      have Hbr6 := Lib.hid hbr6
      have HB6 := Lib.hid hB6
      have Hx7 := Lib.hid hx7
      have hwr6 := hbr6.size
      have hw56 : W5.heap.size < W6.heap.size := hB6.lt
      clear hx5 hx6 hbr6 hB6 hx7
      generalize wr = Wr at *
      go_upto_block 2 with fail
      go_cut [12, 13] from 42 to 79 (fun b mm W => ∃ mN : Nat, mm = .int .i64 mN ∧ TryD ⟨lanes, h, ca, em, re, ax, dk⟩ ts rest W6 b mN W)
      case first =>
        go_wp2
        go_loopw [12, 13, 14] (fun b mm nn wr => ∃ i : Nat, mm = .int .i64 i ∧ nn = .int .i64 ((i : Int) + 1) ∧ Hid (TryI ⟨lanes, h, ca, em, re, ax, dk⟩ ts rest W6 b i wr)) (fun _ mm _ _ => 15 - (intOf mm).toNat)
        case atStart => exact ⟨0, rfl, by go_num, Lib.hid (TryI.start Hx7.out HV.out)⟩
        case round =>
          obtain ⟨i, rfl, rfl, HI⟩ := hrel
          have hlim : limF rest = min 14 rn := by unfold limF; rw [Hrl.out]
          have hile := HI.out.1
          rw [hlim] at hile
          have Hlim := Lib.hid hlim
          clear hlim
          have hbI := HI.out.2.2.2
          by_cases hlt2 : i < min 14 rn
          · have h14 : (i : Int) + 1 ≤ 14 := by omega
            have hrn : (i : Int) + 1 ≤ (rn : Int) := by omega
            have hmin : (i : Int) + 1 ≤ min 14 (rn : Int) := by omega
            have hcut1 : ∀ wx, (Instr.slice 35 (.slice A rn c') none (some (.int .i64 ((i : Int) + 1))) none).run Try.prog wx = .ok (.slice A (i + 1) c') wx := fun wx => by
              have := run_cut_hi (P := Try.prog) Try.underlying35 sz3 A rn c' (i + 1) (by omega) wx
              rw [cutA_zero] at this
              exact this
            have Hct := Lib.hid (cells_take Hrc.out (i + 1))
            have Htl := Lib.hid (show (rest.take (i + 1)).length = i + 1 by rw [List.length_take, Hrl.out]; omega)
            have hbW : Below W4.heap.size W4 wr := (hbr.trans (Hbr6.out.mono hbr.size)).trans (hbI.mono (by have := hbr.size; omega))
            have HbW := Lib.hid hbW
            have hBi := HB6.out.ext hbI
            clear hbI hbW
            go_wp2_with fail
            refine (values_any A (i + 1) c' _).mono ?_; rintro e V1 ⟨rfl, hV, hx1⟩
            clear hcut1
            have C2 := sorted_any A (i + 1) c' (rest.take (i + 1)) V1 Htl.out (by omega) ((Hct.out.ext HbW.out).ext hx1) (fun e => by have := Htl.out; rw [e] at this; simp at this) wr.heap.size hV
            replace C2 := Lib.hid C2
            go_wp2_with fail
            refine C2.out.mono ?_; rintro e V2 ⟨v, rfl, ho2, hx2⟩
            obtain ⟨A5, c5, rfl, -, -, g3⟩ := ho2.cells Go.Bs.encI_len
            have hxx := ext_trans hx1 hx2
            have hB2 := hBi.ext hxx
            have hsl : (srtL (rest.take (i + 1))).length = i + 1 := by rw [srtL_len, Htl.out]
            have hin : InR ts.length (srtL (rest.take (i + 1))) := inr_srt (inr_sub Hin0.out fun z hz => by
              obtain ⟨kk, hkk⟩ := fillR_suffix ts ((ls.map LoV.l).take k) by0
              have h9 := List.mem_of_mem_take hz
              rw [Hrest.out, hkk] at h9
              exact List.mem_of_mem_drop h9)
            have hbV : Below W4.heap.size W4 V2 := HbW.out.trans (hxx.mono HbW.out.size)
            have CP := pack_any ⟨⟨⟨lanes, h, ca, em, re, ax, dk⟩, xA, xc⟩, T, cT⟩ ts A5 c5 (srtL (rest.take (i + 1))) false V2 ⟨Hrow.out.ext hbV, Ht4.out.ext hbV, by simp only; omega, by rw [Hn.out]; omega⟩ Hok.out Hlox.out (by rw [hsl]; omega) (by rw [Hn.out]; omega) hin g3
            unfold JbV.val at CP
            simp only at CP
            rw [Hn.out] at CP
            replace CP := Lib.hid CP
            clear C2 hx1 hx2 hV hBi ho2 hsl hin hbV g3
            generalize (srtL (rest.take (i + 1))).length = sl at *
            have p0 : V2.cell? ⟨W5.heap.size, 0, none⟩ = _ := hB2.cell rfl
            have p1 : V2.cell? ⟨W5.heap.size, 1, none⟩ = _ := hB2.cell rfl
            have p2 : V2.cell? ⟨W5.heap.size, 2, none⟩ = _ := hB2.cell rfl
            have p3 : V2.cell? ⟨W5.heap.size, 3, none⟩ = _ := hB2.cell rfl
            have p4 : V2.cell? ⟨W5.heap.size, 4, none⟩ = _ := hB2.cell rfl
            have p5 : V2.cell? ⟨W5.heap.size, 5, none⟩ = _ := hB2.cell rfl
            have p6 : V2.cell? ⟨W5.heap.size, 6, none⟩ = _ := hB2.cell rfl
            have p7 : V2.cell? ⟨W5.heap.size, 7, none⟩ = _ := hB2.cell rfl
            go_wp2_with fail
            refine CP.out.mono ?_; rintro e V3 ⟨hx3, (⟨hn0, rfl⟩ | ⟨P, O, cc, rs, hn0, rfl, g4, g5, g6, g7⟩)⟩
            · have Hd := Lib.hid (HI.out.done (ext_trans hxx hx3) (.inr hn0))
              clear hn0 CP p0 p1 p2 p3 p4 p5 p6 p7 hB2 hxx
              go_wp2
              go_meet
              case rel => exact ⟨i, rfl, Hd.out⟩
            · have hs9 : W6.heap.size ≤ V2.heap.size := by have := hxx.size; have := HI.out.2.2.2.size; omega
              have Hd := Lib.hid (HI.out.next (ext_trans hxx hx3) (by rw [Hlim.out]; exact hlt2) hn0 ⟨_, cc, rs, rfl, g4, g5, fun kk hkk => by simp at hkk; omega, fun z hz kk hkk => by have := g7 z hz kk hkk; omega⟩)
              clear hn0 CP p0 p1 p2 p3 p4 p5 p6 p7 hB2 hxx g4 g5 g6 g7
              generalize rs.length = rl at *
              go_wp2
              go_roundw
              case rel => exact ⟨i + 1, by go_num, by go_num, Hd⟩
              case measure => simp [intOf]; omega
          · have hnmin : ¬ (i : Int) + 1 ≤ min 14 (rn : Int) := by omega
            have Hd := Lib.hid (HI.out.done (Below.refl _ _) (.inl (by rw [Hlim.out]; omega)))
            clear hbI
            go_wp2
            go_meet
            case rel => exact ⟨i, rfl, Hd.out⟩
      case rest =>
        obtain ⟨mN, rfl, hmN, ⟨bA, bc, brs, rfl, hbr1, hbM, hbN1, hbN2⟩, hbD⟩ := hcut
        have hwc : Below Wr.heap.size Wr wc := Hbr6.out.trans (hbD.mono hwr6)
        have hmr : mN ≤ rn := by
          have h9 := many_le ⟨lanes, h, ca, em, re, ax, dk⟩ ts rest
          rw [← hmN, Hrl.out] at h9
          exact h9
        have Hdrop := Lib.hid (show fillR ts ((ls.map LoV.l).take (k + 1)) by0 = rest.drop mN by rw [Htk.out, fillR_snoc, ← Hrest.out, ← hmN])
        have Hpks := Lib.hid (show fillP ts ((ls.map LoV.l).take (k + 1)) by0 = pks ps ++ [rows brs] by rw [Htk.out, fillP_snoc, ← Hrest.out, Hpk.out, hbr1])
        have hjo : PkJ wc u8 (ps ++ [⟨brs, bA, bc⟩]) := (HJ.out.ext hwc).add hbM ⟨hbN1, hbN2⟩ (fun z hz => by have := (Hown.out z hz).2; omega)
        have HJo := Lib.hid hjo
        have ho1 := HO.out.ext hwc
        have hbw := hbr.trans (hwc.mono hbr.size)
        have hcD : Hid (Cells W4 (cutA A 1 c' mN) 1 Go.Bs.encI (rest.drop mN)) := Lib.hid (by
          have h9 := Hrc.out.cut (cap := c') (lo := mN) (hi := rn) hmr hrc
          rw [List.take_of_length_le (by rw [List.length_drop, Hrl.out]; exact Nat.le_refl _)] at h9
          exact h9)
        have hcut2 : ∀ wx, (Instr.slice 35 (.slice A rn c') (some (.int .i64 (mN : Int))) none none).run Try.prog wx = .ok (.slice (cutA A 1 c' mN) (rn - mN) (c' - mN)) wx := fun wx => run_cut_lo (P := Try.prog) Try.underlying35 sz3 A rn c' mN hmr wx
        have Hdl := Lib.hid (show (rest.drop mN).length = rn - mN by rw [List.length_drop, Hrl.out])
        have hrc2 : rn - mN ≤ c' - mN := by omega
        have hr202 : rn - mN ≤ 20 := by omega
        obtain ⟨e2, he2⟩ : ∃ e2, rn - mN = e2 := ⟨_, rfl⟩
        obtain ⟨e3, he3⟩ : ∃ e3, c' - mN = e3 := ⟨_, rfl⟩
        rw [he2, he3] at hrc2
        rw [he2] at Hdl hr202
        rw [he2, he3] at hcut2
        clear hjo hbD hbM hbN1 hbN2 hbr1 hmN Hbr6 HB6 Hx7 HV he2 he3 hmr HJ HO
        go_upto_region 21 with fail
        refine Dr.Any.wp_region_plan 9 (Dr.Any.from_ W4.heap.size) (.q [0, 1, 4, 5, 6] (.e1 2 (.e1 3 (.q [7, 8] .done)))) (by kernel_rfl) (by kernel_rfl) ?_
        replace hbw := hbw.drew
        replace ho1 := ho1.drew
        have HJ2 := Lib.hid (HJo.out.ext (ext_drew wc))
        clear HJo
        generalize World.drew wc = Y0 at *
        with_reducible refine Dr.Any.plan_q (l := [_, _, _, _, _]) (by with_unfolding_all exact rfl) (fun K hK => ?_)
        iterate 5 (go_big_quiet_step (fail))
        refine wpQuiet_nil (hK _ ?_); clear hK K
        clear hcut2
        have nw := Blk.new Y0 41 [.slice bA brs.length bc]
        have hxb := ext_alloc Y0 (.cells #[.slice bA brs.length bc] 41)
        refine Dr.Any.plan_e rfl (by rfl) (fun K hK => ?_)
        go_wp2
        refine hK _ _ (.of (ext_alloc _ _)) ?_; clear hK K
        change Blk (Y0.alloc (.cells #[.slice bA brs.length bc] 41)) _ _ _ at nw
        change Below Y0.heap.size Y0 (Y0.alloc (.cells #[.slice bA brs.length bc] 41)) at hxb
        generalize Y0.alloc (.cells #[.slice bA brs.length bc] 41) = Y1 at *
        have ho2 := ho1.ext hxb
        have hsY := hbw.size
        have hsY1 := hxb.size
        have HJ3 := Lib.hid (HJ2.out.ext hxb)
        refine Dr.Any.plan_e rfl (by rfl) (fun K hK => ?_)
        refine wp_app1 PkV.enc 89 41 1 24 etP89 (by decide) (by decide) pkv_len pkv_one _ _ rfl W4.heap.size _ ps rfl ho2 Y0.heap.size rfl ⟨brs, bA, bc⟩ (fun j u hj => nw.cell hj) (by rw [Hpsl.out]; omega) (by omega) (fun g' cap' w' hown' hb3 hg3 hat3 => ?_)
        refine hK _ _ (Dr.Any.Bel.grown hg3 (fun kk hkk => (ho2.lt hkk).1)) ?_; clear hK K
        have HJ4 := Lib.hid (HJ3.out.grown (n := ps.length + 1) (c := cap') hg3 hat3)
        have hb4 : Below W4.heap.size W4 w' := (hbw.trans (hxb.mono hsY)).trans hb3
        have Hown' := Lib.hid hown'
        clear ho1 ho2 HJ2 HJ3 hb3 hg3 hat3 nw hxb hbw hown'
        go_frame
        generalize ps.length + 1 = pl1 at *
        with_reducible refine Dr.Any.plan_q (l := [_, _]) (by with_unfolding_all exact rfl) (fun K hK => ?_)
        iterate 2 (go_big_quiet_step (fail))
        refine wpQuiet_nil (hK _ ?_); clear hK K
        refine Dr.Any.plan_end rfl ?_
        go_wp2
        go_roundw
        case rel => exact ⟨k + 1, cutA A 1 c' mN, e2, e3, rest.drop mN, ps ++ [⟨brs, bA, bc⟩], by go_num, by omega, rfl, hrc2, Hdl, hr202, hcD, Lib.hid Hdrop.out.symm, Hown'.out, HJ4.out, Lib.hid (by rw [Hpks.out]; simp [pks]), hb4⟩
        case measure => simp [intOf]; omega
    · obtain rfl : k = m := by omega
      have htl : (ls.map LoV.l).take k = ls.map LoV.l := List.take_of_length_le (by rw [List.length_map, Hm.out]; exact Nat.le_refl _)
      have Hrest2 := Lib.hid (show fillR ts (ls.map LoV.l) by0 = rest by rw [Hrest.out, htl])
      have Hpk2 := Lib.hid (show pks ps = fillP ts (ls.map LoV.l) by0 by rw [Hpk.out, htl])
      have hbf := Hb4.out.trans (hbr.mono hw4)
      obtain ⟨A9, c9, rfl, -, -, g9⟩ := ho.cells pkv_len
      have HV := Lib.hid (show PksV wr (.slice A9 ps.length c9) (fillP ts (ls.map LoV.l) by0) from ⟨A9, c9, ps, rfl, Hpk2.out, ⟨g9, hj.row⟩⟩)
      clear htl Hrest Hpk ho hj g9
      generalize ps.length = pl at *
      by_cases hz : rn = 0
      · subst hz
        have hre : rest = [] := List.length_eq_zero_iff.1 Hrl.out
        have Hr := Lib.hid (show fillRes (ls.map LoV.l) ts = (fillP ts (ls.map LoV.l) by0, 0) by rw [Hr0.out, Hrest2.out, if_pos hre])
        clear hre
        go_wp2
        go_ret2
        exact FlR.mk Hr.out hbf HV.out
      · have hre : ¬ rest = [] := fun e => hz (by rw [← Hrl.out, e]; rfl)
        have Hr := Lib.hid (show fillRes (ls.map LoV.l) ts = ([], 7) by rw [Hr0.out, Hrest2.out, if_neg hre])
        have hz2 : (0 : Int) < (rn : Int) := by omega
        clear hre
        go_wp2
        go_ret2
        exact FlR.mk Hr.out hbf (PksV.nil _)
end Go.Proofs.Ytbpmfaibcibleaa

/- Walks: Lorries, and of the document: ByNeed, sorted. -/
namespace Go.Proofs.Ytbpmfaibcibleaa
open Go.RowKit Go.Bs Go.Wg Go.Pl Go.Sort
set_option maxRecDepth 100000 in
set_option maxHeartbeats 2000000 in
theorem lorries_any (A : Option Addr) (n c : Nat) (ls : List LoV) (w : World) (hn : ls.length = n) (hm : n ≤ 1000000) (hM : LsM w A ls) (hl : ∀ x ∈ ls, x.l.lanes.length ≤ 1000000000) :
    Calls Try.prog 60 #[.slice A n c] w fun e w' => (∃ A2 c2 ls2, e = .returned (.slice A2 n c2) ∧ ls2.map LoV.l = ls.map LoV.l ∧ LsM w' A2 ls2) ∧ Below w.heap.size w w' := by
  have Hn := Lib.hid hn
  have Hl := Lib.hid hl
  clear hn hl
  go_enter Try.func60, Try.ntmps60
  go_wp2
  go_loopw [3, 4] (fun v t wr => ∃ (k : Nat) (l2 : List LoV), t = .int .i64 k ∧ k ≤ n ∧ l2.length = k ∧ l2.map LoV.l = (ls.map LoV.l).take k ∧ OwnL wr w.heap.size 44 7 LoV.enc v l2 ∧ LsJ wr v l2 ∧ Below w.heap.size w wr) (fun _ t _ => n - (intOf t).toNat)
  case atStart => exact ⟨0, [], rfl, by omega, rfl, rfl, OwnL.nil, LsJ.nil _ _, Below.refl _ _⟩
  case round =>
    obtain ⟨k, l2, rfl, hk, hk2, hrows, ho, hj, hb⟩ := hrel
    by_cases hlt : k < n
    · have hlt' : (k : Int) < n := by omega
      have hkt : k < ls.length := by rw [Hn.out]; exact hlt
      obtain ⟨b, off, rfl, -, d0, d1, d2, d3, d4, d5, d6⟩ := (hM.hdr.ext hb).at7 hkt rfl
      have hcell := (hM.row _ (List.getElem_mem hkt)).ext hb
      have hlen := Hl.out _ (List.getElem_mem hkt)
      have Hts := Lib.hid (show (ls.map LoV.l).take (k + 1) = (ls.map LoV.l).take k ++ [ls[k].l] by
        rw [List.take_succ_eq_append_getElem (by rw [List.length_map]; exact hkt), List.getElem_map])
      have Hro := Lib.hid hrows
      obtain ⟨x, hx⟩ : ∃ x, ls[k] = x := ⟨_, rfl⟩
      rw [hx] at d0 d1 d2 d3 d4 d5 d6 hcell hlen Hts
      clear hx hrows
      obtain ⟨⟨lanes, h, ca, em, re, ax, dk⟩, xA, xc⟩ := x
      simp only at d0 d1 d2 d3 d4 d5 d6 hcell hlen Hts
      have Hk2 := Lib.hid hk2
      have HC := Lib.hid (Lorry_any xA lanes.length xc h ca em re ax dk lanes wr rfl hlen hcell)
      clear hk2 hcell hlen
      go_wp2_with fail
      refine HC.out.mono ?_; rintro e w1 ⟨A2, c2, rfl, ⟨A3, c3, e3, g1, g2, g3, g4⟩, hx⟩
      simp only [Value.slice.injEq] at e3
      obtain ⟨rfl, -, rfl⟩ := e3
      have hown : ∀ z, u3.ownBlock = some z → z < wr.heap.size := fun z hz => (ho.lt hz).2
      have hj2 : LsJ w1 u3 (l2 ++ [⟨⟨lanes, h, ca, em, re, ax, dk⟩, A2, c2⟩]) := (hj.ext hx).add g3 (fun z hz e => by have h5 := hown z e; have h6 := g4 z hz; omega)
      have ho1 := ho.ext hx
      have hb1 := hb.trans (hx.mono hb.size)
      have nw := Blk.new w1 44 [.slice A2 lanes.length c2, .int .i64 h, .int .i64 ca, .int .i64 em, .int .i64 re, .int .i64 ax, .int .i64 dk]
      have hj3 := hj2.ext (ext_alloc w1 (.cells #[.slice A2 lanes.length c2, .int .i64 h, .int .i64 ca, .int .i64 em, .int .i64 re, .int .i64 ax, .int .i64 dk] 44))
      have hs1 := hb1.size
      clear hj hj2 ho hb hx hown d0 d1 d2 d3 d4 d5 d6 HC g1 g2 g3 g4
      go_wp2_with (at_builtin; refine app1 LoV.enc 92 44 7 72 etL92 (by decide) (by decide) lov_len lov_one rfl _ _ rfl w.heap.size _ l2 rfl (ho1.alloc _) w1.heap.size rfl ⟨⟨lanes, h, ca, em, re, ax, dk⟩, A2, c2⟩ (fun j u hj => nw.cell hj) (by rw [Hk2.out]; omega) (by simp; omega) ?_; intro g' cap' w' hown' hb3 hg3 hat3)
      have hj4 := hj3.grown (n := l2.length + 1) (c := cap') hg3 hat3
      have hb4 := (hb1.alloc hs1 _).trans hb3
      clear hb3 hg3 hat3 hj3 ho1 nw hb1
      go_wp2
      go_roundw
      case rel => exact ⟨k + 1, l2 ++ [⟨⟨lanes, h, ca, em, re, ax, dk⟩, A2, c2⟩], by go_num, by omega, by simp [Hk2.out], by rw [Hts.out, ← Hro.out]; simp, hown', hj4, hb4⟩
      case measure => simp [intOf]; omega
    · obtain rfl : k = n := by omega
      rw [List.take_of_length_le (by rw [List.length_map, Hn.out]; omega)] at hrows
      obtain ⟨A2, c2, rfl, -, -, g3⟩ := ho.cells lov_len
      have Hro := Lib.hid hrows
      rw [hk2]
      go_wp2
      go_ret
      exact ⟨⟨A2, c2, l2, rfl, Hro.out, ⟨g3, hj.row⟩⟩, hb⟩
set_option maxRecDepth 100000 in
set_option maxHeartbeats 2000000 in
theorem ByNeed_any (T : Option Addr) (n cT : Nat) (ts : List Th) (w : World) (hn : ts.length = n) (hm : n ≤ 100) (ht : Cells w T 4 Th.enc ts) (hok : ∀ t ∈ ts, t.Ok) :
    Calls Try.prog 92 #[.slice T n cT] w fun e w' => (∃ v, e = .returned v ∧ OwnL w' w.heap.size 3 1 Go.Bs.encI v (byNeed ts)) ∧ Below w.heap.size w w' := by
  have Hn := Lib.hid hn
  have He := Lib.hid (needL_eq hok)
  clear hn hok
  go_enter Try.func92, Try.ntmps92
  go_wp2
  go_loopw [3, 4] (fun v t wr => ∃ k : Nat, t = .int .i64 k ∧ k ≤ 1001 ∧ OwnL wr w.heap.size 3 1 Go.Bs.encI v (needL ts k) ∧ Below w.heap.size w wr) (fun _ t _ => 1001 - (intOf t).toNat)
  case atStart => exact ⟨0, rfl, by omega, OwnL.nil, Below.refl _ _⟩
  case round =>
    obtain ⟨k, rfl, hk, ho, hb⟩ := hrel
    by_cases hlt : k ≤ 1000
    · have hlt' : (k : Int) ≤ 1000 := by omega
      have HL := Lib.hid (show (needL ts k).length ≤ 100000 + 100 by
        have h1 := needL_le ts k
        have h2 : k * ts.length ≤ 1000 * 100 := Nat.mul_le_mul hlt (by rw [Hn.out]; exact hm)
        omega)
      have HO := Lib.hid (show OwnL wr w.heap.size 3 1 Go.Bs.encI u3 (needL ts k ++ needI ts k 0) by rw [show needI ts k 0 = [] from rfl, List.append_nil]; exact ho)
      clear ho
      generalize wr = w4 at *
      go_wp2
      go_loopw [3, 5] (fun v t wi => ∃ i : Nat, t = .int .i64 i ∧ i ≤ n ∧ OwnL wi w.heap.size 3 1 Go.Bs.encI v (needL ts k ++ needI ts k i) ∧ Below w.heap.size w wi) (fun _ t _ => n - (intOf t).toNat)
      case atStart => exact ⟨0, rfl, by omega, HO.out, hb⟩
      case round =>
        clear hb HO
        obtain ⟨i, rfl, hi, ho, hb⟩ := hrel
        by_cases hli : i < n
        · have hli' : (i : Int) < n := by omega
          have hit : i < ts.length := by rw [Hn.out]; exact hli
          obtain ⟨b, off, rfl, -, -, -, -, d3⟩ := (ht.ext hb).at4 hit rfl
          have Hs := Lib.hid (needI_succ ts k i)
          have hnk : nk ts (i : Int) = ts[i].need := by unfold nk; rw [thAt_eq hit]
          rw [hnk] at Hs
          have HlI := Lib.hid (show (needL ts k ++ needI ts k i).length ≤ 1000000 by
            have h2 : (needI ts k i).length ≤ i := by
              have := List.length_filter_le (fun x => nk ts x == (k : Int)) (upto i)
              rw [upto_len] at this
              exact this
            have := HL.out
            rw [List.length_append]
            omega)
          clear hnk
          generalize ts[i].need = q at *
          generalize hX : needL ts k ++ needI ts k i = X at *
          have HX := Lib.hid hX
          clear hX
          by_cases hq : q = k
          · have hq2 : (q == (k : Int)) = true := by rw [beq_iff_eq]; exact hq
            have Hs2 := Lib.hid (show needL ts k ++ needI ts k (i + 1) = X ++ [(i : Int)] by rw [Hs.out, if_pos hq, ← List.append_assoc, HX.out])
            have nw := Blk.new wr 3 [.int .i64 (i : Int)]
            have hs1 := hb.size
            clear hq
            go_wp2_with (at_builtin; refine app1 Go.Bs.encI 35 3 1 8 et35 (by decide) (by decide) Go.Bs.encI_len Go.Bs.encI_one rfl _ _ rfl w.heap.size _ X rfl (ho.alloc _) wr.heap.size rfl (i : Int) (Go.Bs.encI_cell (nw.cell rfl)) HlI.out (by simp; omega) ?_; intro g' cap' w' hown' hb3 _ _)
            rw [← Hs2.out] at hown'
            have Hown := Lib.hid hown'
            have hb4 := (hb.alloc hs1 _).trans hb3
            clear hb3 nw ho hown'
            generalize X.length + 1 = xl at *
            go_wp2
            go_roundw
            case rel => exact ⟨i + 1, by go_num, by omega, Hown.out, hb4⟩
            case measure => simp [intOf]; omega
          · have hq2 : (q == (k : Int)) = false := by rw [beq_eq_false_iff_ne]; exact hq
            have Hs2 := Lib.hid (show needL ts k ++ needI ts k (i + 1) = X by rw [Hs.out, if_neg hq, List.append_nil, HX.out])
            clear hq
            go_wp2
            go_roundw
            case rel => exact ⟨i + 1, by go_num, by omega, by rw [Hs2.out]; exact ho, hb⟩
            case measure => simp [intOf]; omega
        · obtain rfl : i = n := by omega
          have HO2 := Lib.hid (show OwnL wr w.heap.size 3 1 Go.Bs.encI u3 (needL ts (k + 1)) by rw [needL_succ, Hn.out]; exact ho)
          clear ho
          go_wp2
          go_roundw
          case rel => exact ⟨k + 1, by go_num, by omega, HO2.out, hb⟩
          case measure => simp [intOf]; omega
    · obtain rfl : k = 1001 := by omega
      rw [He.out] at ho
      go_wp2
      go_ret
      exact ⟨⟨_, rfl, ho⟩, hb⟩
def sub2 (a b : Int) : Int := a - b
theorem insert_sub (l : List Int) : sortL sub2 l = srtL l := insert_srt l
set_option maxRecDepth 100000 in
set_option maxHeartbeats 4000000 in
theorem sortedR_any (A : Option Addr) (n c : Nat) (l : List Int) (w : World) (hn : l.length = n) (hm : n ≤ 1000000) (hn1 : 1 ≤ n) (hd : Cells w A 1 Go.Bs.encI l) :
    Calls Try.prog 93 #[.slice A n c] w fun e w' => (∃ v, e = .returned v ∧ OwnL w' w.heap.size 3 1 Go.Bs.encI v (srtL l)) ∧ Below w.heap.size w w' := by
  have Hn := Lib.hid hn
  have ho : OwnL w w.heap.size 3 1 Go.Bs.encI (.slice none 0 0) ([] : List Int) := OwnL.nil
  rw [← insert_sub]
  go_enter Try.func93, Try.ntmps93
  go_upto_region 2 with (at_builtin; refine app_ints 35 3 et35 rfl _ _ rfl w.heap.size _ [] rfl ho A n c l hn rfl hd (by simp; omega) (by simp) ?_; intro v' w' hown hb _ _)
  rw [List.nil_append] at hown
  rcases hown.2 with ⟨-, h0⟩ | ⟨g, cap, cur, rfl, -⟩
  · exact absurd h0 (by omega)
  obtain ⟨-, sp, hB, hge, hback⟩ := own_block hown
  have Hback := Lib.hid hback
  have Hb := Lib.hid hb
  have Hge := Lib.hid hge
  rw [hn]
  clear hn hown hd ho hback hb hge
  go_wp2
  go_loopw [4] (fun x wr => ∃ i : Nat, x = .int .i64 i ∧ i ≤ n ∧ Dr.Bel [g] w' wr ∧ Blk wr g 3 ((sortL sub2 (l.take i) ++ l.drop i).map (Value.int .i64) ++ sp)) (fun x _ => n + 1 - (intOf x).toNat)
  case atStart => exact ⟨0, rfl, by omega, Dr.Bel.refl _ _, by simpa [sortL] using hB⟩
  case round =>
    clear hB
    obtain ⟨i, rfl, hi2, hb, hB⟩ := hrel
    by_cases hlt : i < n
    · have hlt' : (i : Int) < (n : Int) := by omega
      have hil : i < l.length := by rw [Hn.out]; exact hlt
      have hS : (sortL sub2 (l.take i)).length = i := by rw [sortL_len, List.length_take]; omega
      have hnext : sortL sub2 (l.take (i + 1)) = ins1 sub2 (sortL sub2 (l.take i)) l[i] := by rw [List.take_succ_eq_append_getElem hil, sortL_snoc]
      rw [List.drop_eq_getElem_cons hil] at hB
      generalize hSS : sortL sub2 (l.take i) = S at *
      generalize hx : l[i] = x at *
      have HS := Lib.hid hS
      have Hnext := Lib.hid hnext
      clear hS hnext hSS hx
      go_upto_region 5 with fail
      go_wp2
      go_loopw [5] (fun u wr => ∃ (T1 D : List Int) (j : Nat), u = .int .i64 j ∧ T1.length = j ∧ T1.length + D.length = i ∧ Hid ((insR (fun s => decide (sub2 x s < 0)) x T1.reverse).reverse ++ D = ins1 sub2 S x) ∧ Dr.Bel [g] w' wr ∧ Blk wr g 3 ((T1 ++ x :: (D ++ l.drop (i + 1))).map (Value.int .i64) ++ sp)) (fun u _ => (intOf u).toNat)
      case atStart => exact ⟨S, [], i, rfl, HS.out, by simp [HS.out], Lib.hid (by unfold ins1; simp), hb, hB⟩
      case round =>
        clear hb hB
        obtain ⟨T1, D, j, rfl, hT, hTD, Hins, hb, hB⟩ := hrel
        have hexit : (T1 = [] ∨ ∃ T' s, T1 = T' ++ [s] ∧ ¬ sub2 x s < 0) → T1 ++ x :: D = ins1 sub2 S x := fun h => by
          rw [← Hins.out]
          rcases h with rfl | ⟨T', s, rfl, hs⟩
          · simp [insR]
          · simp [insR, hs]
        have Hexit := Lib.hid hexit
        clear hexit
        have hcc : T1 = [] ∨ ∃ T' s, T1 = T' ++ [s] := by
          rcases List.eq_nil_or_concat T1 with h0 | ⟨T', s, h0⟩
          · exact .inl h0
          · exact .inr ⟨T', s, by rw [h0, List.concat_eq_append]⟩
        rcases hcc with h0 | ⟨T', s, h0⟩
        · obtain rfl : j = 0 := by rw [← hT, h0]; rfl
          have He := Lib.hid (Hexit.out (.inl h0))
          clear h0
          go_upto_region 6 with fail
          refine Dr.wp_region_plan 14 [] (.q [0, 1, 2, 3, 4, 5, 6, 7, 8, 9, 10, 11, 12, 13] .done) (by kernel_rfl) (by kernel_rfl) ?_
          have hb1 : Dr.Bel [g] w' wr.drew := hb.trans (.of (ext_drew _))
          have hB1 := hB.drew
          clear hb hB
          generalize World.drew _ = W at *
          refine Dr.plan_q (l := [_, _, _, _, _, _, _, _, _, _, _, _, _, _]) rfl (fun K hK => ?_)
          iterate 14 (go_big_quiet_step (fail))
          refine wpQuiet_nil (hK _ ?_); clear hK K
          refine Dr.plan_end rfl ?_
          go_wp2
          go_roundw
          case rel =>
            refine ⟨i + 1, by go_num, by omega, hb1, ?_⟩
            rw [Hnext.out, ← He.out, List.append_assoc]
            exact hB1
          case measure => simp [intOf]; omega
        · obtain ⟨jp, rfl⟩ : ∃ jp, j = jp + 1 := ⟨j - 1, by rw [← hT, h0]; simp⟩
          have hT' : T'.length = jp := by rw [h0] at hT; simpa using hT
          subst h0
          have hg0 : ((T' ++ [s] ++ x :: (D ++ l.drop (i + 1))).map (Value.int .i64) ++ sp)[jp + 1]? = some (.int .i64 x) := by
            rw [← hT']; simp
          have hg1 : ((T' ++ [s] ++ x :: (D ++ l.drop (i + 1))).map (Value.int .i64) ++ sp)[jp]? = some (.int .i64 s) := by
            rw [← hT']; simp
          have c0 := hB.cell hg0
          have c1 := hB.cell hg1
          have f0 := hB.free (jp + 1)
          have f1 := hB.free jp
          have hj1 : (jp : Int) + 1 < (n : Int) := by
            have : T'.length + 1 + D.length = i := by simpa using hTD
            omega
          have hj2 : (jp : Int) < (n : Int) := by omega
          have hj3 : (0 : Int) < (jp : Int) + 1 := by omega
          have hj4 : (0 : Int) ≤ (jp : Int) + 1 := by omega
          have hj5 : (0 : Int) ≤ (jp : Int) := by omega
          have hset := set_swap T' (D ++ l.drop (i + 1)) s x
          rw [hT'] at hset
          have Hset := Lib.hid hset
          have HT' := Lib.hid hT'
          have HTD := Lib.hid hTD
          clear hg0 hg1 hset hT hT' hTD
          go_upto_region 6 with fail
          refine Dr.wp_region_plan 14 [] (.q [0, 1, 2, 3, 4, 5, 6, 7, 8, 9, 10, 11, 12, 13] .done) (by kernel_rfl) (by kernel_rfl) ?_
          have hb1 : Dr.Bel [g] w' wr.drew := hb.trans (.of (ext_drew _))
          have hB1 := hB.drew
          have q0 := Dr.cell0 (cell_ext c0 (ext_drew _))
          have q1 := Dr.cell0 (cell_ext c1 (ext_drew _))
          clear hb hB c0 c1 f0 f1
          generalize World.drew _ = W at *
          by_cases hlv : x < s
          · have hlv2 : sub2 x s < 0 := by unfold sub2; omega
            have Hins2 : Hid ((insR (fun s => decide (sub2 x s < 0)) x T'.reverse).reverse ++ (s :: D) = ins1 sub2 S x) := Lib.hid (by
              rw [← Hins.out]; simp [insR, hlv2])
            clear hlv2
            refine Dr.plan_q (l := [_, _, _, _, _, _, _, _, _, _, _, _, _, _]) rfl (fun K hK => ?_)
            iterate 14 (go_big_quiet_step (fail))
            refine wpQuiet_nil (hK _ ?_); clear hK K
            clear q0 q1
            refine Dr.plan_end rfl ?_
            have c0 := hB1.cell (i := jp + 1) (v := .int .i64 x) (by rw [← HT'.out]; simp)
            have c1 := hB1.cell (i := jp) (v := .int .i64 s) (by rw [← HT'.out]; simp)
            go_upto_region 8 with fail
            have f0 := hB1.free (jp + 1)
            have f1 := hB1.free jp
            have hB4 := (hB1.set (jp + 1) (.int .i64 s)).set jp (.int .i64 x)
            rw [List.set_append_left _ _ (by simp [← HT'.out]), List.set_append_left _ _ (by simp [← HT'.out])] at hB4
            rw [← List.map_set, ← List.map_set, show T' ++ [s] ++ x :: (D ++ l.drop (i + 1)) = T' ++ s :: x :: (D ++ l.drop (i + 1)) by simp, Hset.out] at hB4
            have HB4 := Lib.hid hB4
            clear hB4 hB1
            go_region
            all_goals go_wp2
            go_roundw
            case rel =>
              refine ⟨T', s :: D, jp, by go_num, HT'.out, ?_, Hins2, ?_, ?_⟩
              · have := HTD.out
                simp at this ⊢
                omega
              · exact ((hb1.trans (Dr.Bel.store (by simp) _)).trans (Dr.Bel.store (by simp) _)).trans (.of (ext_drew _))
              · exact HB4.out.drew
            case measure => simp [intOf]
          · have hlv2 : ¬ sub2 x s < 0 := by unfold sub2; omega
            have He := Lib.hid (Hexit.out (.inr ⟨T', s, rfl, hlv2⟩))
            clear hlv2
            refine Dr.plan_q (l := [_, _, _, _, _, _, _, _, _, _, _, _, _, _]) rfl (fun K hK => ?_)
            iterate 14 (go_big_quiet_step (fail))
            refine wpQuiet_nil (hK _ ?_); clear hK K
            refine Dr.plan_end rfl ?_
            go_wp2
            go_roundw
            case rel =>
              refine ⟨i + 1, by go_num, by omega, hb1, ?_⟩
              rw [Hnext.out, ← He.out, List.append_assoc]
              exact hB1
            case measure => simp [intOf]; omega
    · obtain rfl : i = n := by omega
      have hall : sortL sub2 (l.take i) ++ l.drop i = sortL sub2 l := by rw [← Hn.out, List.take_length, List.drop_length, List.append_nil]
      rw [hall] at hB
      have HB := Lib.hid hB
      have hbf : Below w.heap.size w wr := Hb.out.trans (hb.old Hb.out.size (by simpa using Hge.out))
      clear hall hB
      go_wp2
      go_ret
      exact ⟨⟨_, rfl, by
        have h9 := Hback.out wr (sortL sub2 l) (by rw [sortL_len]) HB.out
        rwa [Hn.out] at h9⟩, hbf⟩
end Go.Proofs.Ytbpmfaibcibleaa

/- Walk: Fill, of the document. -/
namespace Go.Wg
open Go.RowKit Go.Bs Go.Pl
/-- what the document's Fill returns -/
def FrR (ls : List Lo) (ts : List Th) (w : World) (e : Ending) (w' : World) : Prop :=
  Below w.heap.size w w' ∧ ∃ v, e = .returned (.tuple #[v, .bool (decide (fillR ts ls (byNeed ts) = []))]) ∧ PksV w' v (fillP ts ls (byNeed ts))
theorem FrR.mk {ls : List Lo} {ts : List Th} {w w' : World} {v : Value} {b : Bool} (h : decide (fillR ts ls (byNeed ts) = []) = b) (hb : Below w.heap.size w w') (hv : PksV w' v (fillP ts ls (byNeed ts))) : FrR ls ts w (.returned (.tuple #[v, .bool b])) w' := ⟨hb, v, by rw [h], hv⟩
end Go.Wg
namespace Go.Proofs.Ytbpmfaibcibleaa
open Go.RowKit Go.Bs Go.Wg Go.Pl Go.Sort
set_option maxRecDepth 100000 in
set_option maxHeartbeats 8000000 in
theorem RFill_any (L : Option Addr) (m cL : Nat) (ls : List LoV) (T : Option Addr) (n cT : Nat) (ts : List Th) (w : World) (hm : ls.length = m) (hm1 : m ≤ 1000000) (hM : LsM w L ls) (hlo : ∀ x ∈ ls, x.l.Ok) (hn : ts.length = n) (hn1 : n ≤ 20) (ht : Cells w T 4 Th.enc ts) (hok : ∀ t ∈ ts, t.Ok) :
    Calls Try.prog 61 #[.slice L m cL, .slice T n cT] w (FrR (ls.map LoV.l) ts w) := by
  have CB := Lib.hid (ByNeed_any T n cT ts w hn (by omega) ht hok)
  have Hm := Lib.hid hm
  have HM := Lib.hid hM
  have Hn := Lib.hid hn
  have Ht := Lib.hid ht
  have Hok := Lib.hid hok
  have Hlo := Lib.hid hlo
  clear hm hM hn ht hok hlo
  go_enter Try.func61, Try.ntmps61
  go_wp2_with fail
  refine CB.out.mono ?_; rintro e W4 ⟨⟨v0, rfl, hov⟩, hb4⟩
  obtain ⟨AN, capN, rfl, hc1, -, hcN⟩ := hov.cells Go.Bs.encI_len
  have hbyl : (byNeed ts).length = n := by rw [byNeed_len, Hn.out]
  have Hin0 := Lib.hid (byNeed_in ts)
  have HM4 := Lib.hid (HM.out.ext hb4)
  have Ht4 := Lib.hid (Ht.out.ext hb4)
  have Hby := Lib.hid (show byNeed ts = byNeed ts from rfl)
  obtain ⟨by0, hby⟩ : ∃ b, b = byNeed ts := ⟨_, rfl⟩
  rw [← hby] at hbyl hcN hc1 Hin0 ⊢
  have Hby0 := Lib.hid hby
  rw [hbyl] at hc1 ⊢
  have Hbyl := Lib.hid hbyl
  have Hb4 := Lib.hid hb4
  have hw4 : w.heap.size ≤ W4.heap.size := hb4.size
  clear hbyl hb4 CB hov Hby hby
  go_wp2
  go_loopw [6, 7, 8] (fun r o t wr => ∃ (k : Nat) (A : Option Addr) (rn c' : Nat) (rest : List Int) (ps : List PkV), t = .int .i64 k ∧ k ≤ m ∧ r = .slice A rn c' ∧ rn ≤ c' ∧ Hid (rest.length = rn) ∧ rn ≤ 20 ∧ Hid (Cells W4 A 1 Go.Bs.encI rest) ∧ Hid (rest = fillR ts ((ls.map LoV.l).take k) by0) ∧ OwnL wr W4.heap.size 41 1 PkV.enc o ps ∧ PkJ wr o ps ∧ Hid (pks ps = fillP ts ((ls.map LoV.l).take k) by0) ∧ Below W4.heap.size W4 wr) (fun _ _ t _ => m - (intOf t).toNat)
  case atStart => exact ⟨0, _, n, capN, by0, [], rfl, by omega, rfl, hc1, Hbyl, hn1, Lib.hid hcN, Lib.hid rfl, OwnL.nil, PkJ.nil _ _, Lib.hid rfl, Below.refl _ _⟩
  case round =>
    obtain ⟨k, A, rn, c', rest, ps, rfl, hk, rfl, hrc, Hrl, hr20, Hrc, Hrest, ho, hj, Hpk, hbr⟩ := hrel
    by_cases hlt : k < m
    · have hlt' : (k : Int) < (m : Int) := by omega
      have hkl : k < ls.length := by rw [Hm.out]; exact hlt
      have hMr := HM4.out.ext hbr
      obtain ⟨b, off, hLe, -, d0, d1, d2, d3, d4, d5, d6⟩ := hMr.hdr.at7 hkl rfl
      have hrow := HM4.out.row _ (List.getElem_mem hkl)
      have hlox := Hlo.out _ (List.getElem_mem hkl)
      have Htk := Lib.hid (show (ls.map LoV.l).take (k + 1) = (ls.map LoV.l).take k ++ [ls[k].l] by
        rw [List.take_succ_eq_append_getElem (by rw [List.length_map]; exact hkl), List.getElem_map])
      obtain ⟨x, hx⟩ : ∃ x, ls[k] = x := ⟨_, rfl⟩
      rw [hx] at d0 d1 d2 d3 d4 d5 d6 hrow hlox Htk
      clear hx hMr
      obtain ⟨⟨lanes, h, ca, em, re, ax, dk⟩, xA, xc⟩ := x
      simp only at d0 d1 d2 d3 d4 d5 d6 hrow Htk
      have Hrow := Lib.hid hrow
      have Hlox := Lib.hid hlox
      have h6 : lanes.length ≤ 6 := hlox.many.2
      have Hpsl := Lib.hid (show ps.length = k by
        have h9 := congrArg List.length Hpk.out
        rw [pks_len, fillP_len, List.length_take, List.length_map, Hm.out] at h9
        omega)
      have hown : ∀ z, u7.ownBlock = some z → W4.heap.size ≤ z ∧ z < wr.heap.size := fun z hz => ho.lt hz
      have Hown := Lib.hid hown
      have HO := Lib.hid ho
      have HJ := Lib.hid hj
      clear hrow hlox hown ho hj
      subst hLe
      have Dall := Lib.hid (⟨d0, d1, d2, d3, d4, d5, d6⟩ : _ ∧ _ ∧ _ ∧ _ ∧ _ ∧ _ ∧ _)
      have hmk := mk41 lanes.length (by omega)
      have hO := Blk.new wr 35 (List.replicate lanes.length (Value.slice none 0 0))
      have hx7 := ext_alloc wr (.cells (List.replicate lanes.length (Value.slice none 0 0)).toArray 35)
      rw [List.toArray_replicate] at hx7
      go_upto_region 7 with fail
      change Blk (wr.alloc (.cells (List.replicate lanes.length (Value.slice none 0 0)).toArray 35)) _ _ _ at hO
      rw [List.toArray_replicate] at hO
      clear hmk d0 d1 d2 d3 d4 d5 d6
      have HV := Lib.hid (rows_new (w := wr) (RwJ.start (b0 := wr.heap.size) hO (Nat.le_refl _)) (Nat.le_refl _) (Nat.le_refl _))
      generalize wr.alloc (.cells (Array.replicate lanes.length (Value.slice none 0 0)) 35) = W7 at *
      have Hx7 := Lib.hid hx7
      clear hO hx7
      generalize wr = Wr at *
      go_upto_block 2 with fail
      go_cut [9, 10] from 29 to 52 (fun b mm W => ∃ mN : Nat, mm = .int .i64 mN ∧ TryD ⟨lanes, h, ca, em, re, ax, dk⟩ ts rest Wr b mN W)
      case first =>
        go_wp2
        go_loopw [9, 10, 11] (fun b mm nn wr => ∃ i : Nat, mm = .int .i64 i ∧ nn = .int .i64 ((i : Int) + 1) ∧ Hid (TryI ⟨lanes, h, ca, em, re, ax, dk⟩ ts rest Wr b i wr)) (fun _ mm _ _ => 15 - (intOf mm).toNat)
        case atStart => exact ⟨0, rfl, by go_num, Lib.hid (TryI.start Hx7.out HV.out)⟩
        case round =>
          obtain ⟨i, rfl, rfl, HI⟩ := hrel
          have hlim : limF rest = min 14 rn := by unfold limF; rw [Hrl.out]
          have hile := HI.out.1
          rw [hlim] at hile
          have Hlim := Lib.hid hlim
          clear hlim
          have hbI := HI.out.2.2.2
          by_cases hlt2 : i < min 14 rn
          · have h14 : (i : Int) + 1 ≤ 14 := by omega
            have hrn : (i : Int) + 1 ≤ (rn : Int) := by omega
            have hmin : (i : Int) + 1 ≤ min 14 (rn : Int) := by omega
            have hcut1 : ∀ wx, (Instr.slice 35 (.slice A rn c') none (some (.int .i64 ((i : Int) + 1))) none).run Try.prog wx = .ok (.slice A (i + 1) c') wx := fun wx => by
              have := run_cut_hi (P := Try.prog) Try.underlying35 sz3 A rn c' (i + 1) (by omega) wx
              rw [cutA_zero] at this
              exact this
            have Hct := Lib.hid (cells_take Hrc.out (i + 1))
            have Htl := Lib.hid (show (rest.take (i + 1)).length = i + 1 by rw [List.length_take, Hrl.out]; omega)
            have HbI := Lib.hid hbI
            have HbW := Lib.hid (hbr.trans (hbI.mono hbr.size))
            clear hbI
            go_upto_region 11 with fail
            refine Dr.wp_region_plan 15 [] (.q [0, 1, 2, 3, 4, 5, 6, 7] (.e1 8 (.e1 9 (.q [10, 11, 12, 13, 14] .done)))) (by kernel_rfl) (by kernel_rfl) ?_
            have hxd := ext_drew wr
            obtain ⟨d0, d1, d2, d3, d4, d5, d6⟩ := Dall.out
            have hxi := HbI.out.trans (hxd.mono HbI.out.size)
            have HbY := Lib.hid (HbW.out.trans (hxd.mono HbW.out.size))
            have q0 := Dr.cell0 (Go.Bs.cell_ext d0 hxi)
            have q1 := Dr.cell0 (Go.Bs.cell_ext d1 hxi)
            have q2 := Dr.cell0 (Go.Bs.cell_ext d2 hxi)
            have q3 := Dr.cell0 (Go.Bs.cell_ext d3 hxi)
            have q4 := Dr.cell0 (Go.Bs.cell_ext d4 hxi)
            have q5 := Dr.cell0 (Go.Bs.cell_ext d5 hxi)
            have q6 := Dr.cell0 (Go.Bs.cell_ext d6 hxi)
            clear d0 d1 d2 d3 d4 d5 d6 hxi
            generalize World.drew wr = Y0 at *
            with_reducible refine Dr.plan_q (l := [_, _, _, _, _, _, _, _]) (by with_unfolding_all exact rfl) (fun K hK => ?_)
            iterate 8 (go_big_quiet_step (fail))
            refine wpQuiet_nil (hK _ ?_); clear hK K
            clear q0 q1 q2 q3 q4 q5 q6 hcut1
            have C2 := Lib.hid (sortedR_any A (i + 1) c' (rest.take (i + 1)) Y0 Htl.out (by omega) (by omega) (Hct.out.ext HbY.out))
            refine Dr.plan_e rfl (by rfl) (fun K hK => ?_)
            go_wp2_with fail
            refine C2.out.mono ?_; rintro e V2 ⟨⟨v, rfl, ho2⟩, hx2⟩
            refine hK _ _ (.of hx2) ?_; clear hK K
            obtain ⟨A5, c5, rfl, -, -, g3⟩ := ho2.cells Go.Bs.encI_len
            have hxx := ext_trans hxd hx2
            have hsl : (srtL (rest.take (i + 1))).length = i + 1 := by rw [srtL_len, Htl.out]
            have hin : InR n (srtL (rest.take (i + 1))) := by
              rw [← Hn.out]
              exact inr_srt (inr_sub Hin0.out fun z hz => by
                obtain ⟨kk, hkk⟩ := fillR_suffix ts ((ls.map LoV.l).take k) by0
                have h9 := List.mem_of_mem_take hz
                rw [Hrest.out, hkk] at h9
                exact List.mem_of_mem_drop h9)
            have hbV : Below W4.heap.size W4 V2 := HbY.out.trans (hx2.mono HbY.out.size)
            have CP := PackedN_any xA lanes.length xc h ca em re ax dk lanes T n cT ts A5 (srtL (rest.take (i + 1))).length c5 (srtL (rest.take (i + 1))) false V2 rfl Hlox.out Hn.out Hok.out rfl (by rw [hsl]; omega) hin (Hrow.out.ext hbV) (Ht4.out.ext hbV) g3
            obtain ⟨res, hres⟩ : ∃ r, packL ⟨lanes, h, ca, em, re, ax, dk⟩ ts (srtL (rest.take (i + 1))) false = r := ⟨_, rfl⟩
            rw [hres] at CP
            have Hres := Lib.hid (show tryL ⟨lanes, h, ca, em, re, ax, dk⟩ ts rest (i + 1) = res from hres)
            unfold PdR at CP
            replace CP := Lib.hid CP
            clear C2 hx2 ho2 hsl hin hbV g3 hres
            generalize (srtL (rest.take (i + 1))).length = sl at *
            cases res with
            | none =>
              refine Dr.plan_e rfl (by rfl) (fun K hK => ?_)
              go_wp2_with fail
              refine CP.out.mono ?_; rintro e V3 ⟨hx3, rfl⟩
              refine hK _ _ (.of hx3) ?_; clear hK K
              have Hd := Lib.hid (HI.out.done (ext_trans hxx hx3) (.inr Hres.out))
              with_reducible refine Dr.plan_q (l := [_, _, _, _, _]) (by with_unfolding_all exact rfl) (fun K hK => ?_)
              iterate 5 (go_big_quiet_step (fail))
              refine wpQuiet_nil (hK _ ?_); clear hK K
              refine Dr.plan_end rfl ?_
              clear CP hxx hxd
              go_wp2
              go_meet
              case rel => exact ⟨i, rfl, Hd.out⟩
            | some P =>
              refine Dr.plan_e rfl (by rfl) (fun K hK => ?_)
              go_wp2_with fail
              refine CP.out.mono ?_; rintro e V3 ⟨hx3, O, cc, rs, rfl, g4, g5, g6, g7⟩
              refine hK _ _ (.of hx3) ?_; clear hK K
              have hs9 : Wr.heap.size ≤ V2.heap.size := by have := hxx.size; have := HI.out.2.2.2.size; omega
              have Hd := Lib.hid (HI.out.next (ext_trans hxx hx3) (by rw [Hlim.out]; exact hlt2) Hres.out ⟨O, cc, rs, rfl, g4, g5, fun kk hkk => by have := g6 kk hkk; omega, fun z hz kk hkk => by have := g7 z hz kk hkk; omega⟩)
              clear CP hxx hxd g4 g5 g6 g7
              generalize rs.length = rl at *
              with_reducible refine Dr.plan_q (l := [_, _, _, _, _]) (by with_unfolding_all exact rfl) (fun K hK => ?_)
              iterate 5 (go_big_quiet_step (fail))
              refine wpQuiet_nil (hK _ ?_); clear hK K
              refine Dr.plan_end rfl ?_
              go_wp2
              go_roundw
              case rel => exact ⟨i + 1, by go_num, by go_num, Hd⟩
              case measure => simp [intOf]; omega
          · have hnmin : ¬ (i : Int) + 1 ≤ min 14 (rn : Int) := by omega
            have Hd := Lib.hid (HI.out.done (Below.refl _ _) (.inl (by rw [Hlim.out]; omega)))
            clear hbI
            go_wp2
            go_meet
            case rel => exact ⟨i, rfl, Hd.out⟩
      case rest =>
        obtain ⟨mN, rfl, hmN, ⟨bA, bc, brs, rfl, hbr1, hbM, hbN1, hbN2⟩, hbD⟩ := hcut
        have hwc : Below Wr.heap.size Wr wc := hbD
        have hmr : mN ≤ rn := by
          have h9 := many_le ⟨lanes, h, ca, em, re, ax, dk⟩ ts rest
          rw [← hmN, Hrl.out] at h9
          exact h9
        have Hdrop := Lib.hid (show fillR ts ((ls.map LoV.l).take (k + 1)) by0 = rest.drop mN by rw [Htk.out, fillR_snoc, ← Hrest.out, ← hmN])
        have Hpks := Lib.hid (show fillP ts ((ls.map LoV.l).take (k + 1)) by0 = pks ps ++ [rows brs] by rw [Htk.out, fillP_snoc, ← Hrest.out, Hpk.out, hbr1])
        have hjo : PkJ wc u7 (ps ++ [⟨brs, bA, bc⟩]) := (HJ.out.ext hwc).add hbM ⟨hbN1, hbN2⟩ (fun z hz => by have := (Hown.out z hz).2; omega)
        have HJo := Lib.hid hjo
        have ho1 := HO.out.ext hwc
        have hbw := hbr.trans (hwc.mono hbr.size)
        have hcD : Hid (Cells W4 (cutA A 1 c' mN) 1 Go.Bs.encI (rest.drop mN)) := Lib.hid (by
          have h9 := Hrc.out.cut (cap := c') (lo := mN) (hi := rn) hmr hrc
          rw [List.take_of_length_le (by rw [List.length_drop, Hrl.out]; exact Nat.le_refl _)] at h9
          exact h9)
        have hcut2 : ∀ wx, (Instr.slice 35 (.slice A rn c') (some (.int .i64 (mN : Int))) none none).run Try.prog wx = .ok (.slice (cutA A 1 c' mN) (rn - mN) (c' - mN)) wx := fun wx => run_cut_lo (P := Try.prog) Try.underlying35 sz3 A rn c' mN hmr wx
        have Hdl := Lib.hid (show (rest.drop mN).length = rn - mN by rw [List.length_drop, Hrl.out])
        have hrc2 : rn - mN ≤ c' - mN := by omega
        have hr202 : rn - mN ≤ 20 := by omega
        obtain ⟨e2, he2⟩ : ∃ e2, rn - mN = e2 := ⟨_, rfl⟩
        obtain ⟨e3, he3⟩ : ∃ e3, c' - mN = e3 := ⟨_, rfl⟩
        rw [he2, he3] at hrc2
        rw [he2] at Hdl hr202
        rw [he2, he3] at hcut2
        clear hjo hbD hbM hbN1 hbN2 hbr1 hmN Hx7 HV he2 he3 hmr HJ HO Dall
        have nw := Blk.new wc 41 [.slice bA brs.length bc]
        have hxb := ext_alloc wc (.cells #[.slice bA brs.length bc] 41)
        have hsY := hbw.size
        have HJ3 := Lib.hid (HJo.out.ext hxb)
        go_wp2_with (at_builtin; refine app1 PkV.enc 89 41 1 24 etP89 (by decide) (by decide) pkv_len pkv_one rfl _ _ rfl W4.heap.size _ ps rfl (ho1.ext hxb) wc.heap.size rfl ⟨brs, bA, bc⟩ (fun j u hj => nw.cell hj) (by rw [Hpsl.out]; omega) (by simp; omega) ?_; intro g' cap' w' hown' hb3 hg3 hat3; have HJ4 := Lib.hid (HJ3.out.grown (n := ps.length + 1) (c := cap') hg3 hat3))
        have hb4 : Below W4.heap.size W4 w' := (hbw.trans (hxb.mono hsY)).trans hb3
        have Hown' := Lib.hid hown'
        clear ho1 HJo HJ3 hb3 hg3 hat3 nw hxb hbw hown'
        generalize ps.length + 1 = pl1 at *
        go_wp2
        go_roundw
        case rel => exact ⟨k + 1, cutA A 1 c' mN, e2, e3, rest.drop mN, ps ++ [⟨brs, bA, bc⟩], by go_num, by omega, rfl, hrc2, Hdl, hr202, hcD, Lib.hid Hdrop.out.symm, Hown'.out, HJ4.out, Lib.hid (by rw [Hpks.out]; simp [pks]), hb4⟩
        case measure => simp [intOf]; omega
    · obtain rfl : k = m := by omega
      have htl : (ls.map LoV.l).take k = ls.map LoV.l := List.take_of_length_le (by rw [List.length_map, Hm.out]; exact Nat.le_refl _)
      have Hrest2 := Lib.hid (show fillR ts (ls.map LoV.l) by0 = rest by rw [Hrest.out, htl])
      have Hpk2 := Lib.hid (show pks ps = fillP ts (ls.map LoV.l) by0 by rw [Hpk.out, htl])
      have hbf := Hb4.out.trans (hbr.mono hw4)
      obtain ⟨A9, c9, rfl, -, -, g9⟩ := ho.cells pkv_len
      have HV := Lib.hid (show PksV wr (.slice A9 ps.length c9) (fillP ts (ls.map LoV.l) by0) from ⟨A9, c9, ps, rfl, Hpk2.out, ⟨g9, hj.row⟩⟩)
      have Hdb := Lib.hid (show decide (fillR ts (ls.map LoV.l) by0 = []) = decide (rn = 0) by rw [Hrest2.out]; exact decide_eq_decide.2 (by rw [← Hrl.out]; exact List.length_eq_zero_iff.symm))
      clear htl Hrest Hpk ho hj g9
      generalize ps.length = pl at *
      rw [Hby0.out] at HV Hdb
      by_cases hz : rn = 0
      · subst hz
        go_wp2
        go_ret2
        exact FrR.mk Hdb.out hbf HV.out
      · have hz2 : ((rn : Int) == 0) = false := by rw [beq_eq_false_iff_ne]; omega
        have Hdb2 := Lib.hid (show decide (fillR ts (ls.map LoV.l) (byNeed ts) = []) = false by rw [Hdb.out, decide_eq_false hz])
        go_wp2
        go_ret2
        exact FrR.mk Hdb2.out hbf HV.out
end Go.Proofs.Ytbpmfaibcibleaa

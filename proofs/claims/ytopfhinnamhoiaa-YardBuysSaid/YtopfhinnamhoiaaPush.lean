/- 'append(append([]int{}, l...), x)' in a region that draws its order: one step of a plan. -/
import Derived.Test.YtopfhinnamhoiaaGround
namespace Go.Bs
open Go.RowKit Go.Sort Go.Pl Go.Dr

section
variable {P : Program} {t e : TypeId}
theorem run_build0 (hT : ElemT P t e 1 8) (w : World) : (Instr.buildSlice t 0 #[]).run P w = .ok (.slice (some ⟨w.heap.size, 0, none⟩) 0 0) (w.alloc (.cells #[] e)) := by
  obtain ⟨i, z, ht, hi, hz, hs1, hb1, hz1⟩ := hT
  have h0 : Array.range 0 = #[] := rfl
  simp [Instr.buildSlice, Instr.fill, run_underlying ht, sizeOf, typeInfo, hi, newRow, Result.andThen, h0]
theorem run_build1 (hT : ElemT P t e 1 8) (x : Int) (w : World) : (Instr.buildSlice t 1 #[(0, .int .i64 x)]).run P w = .ok (.slice (some ⟨w.heap.size, 0, none⟩) 1 1) (w.alloc (.cells #[.int .i64 x] e)) := by
  obtain ⟨i, z, ht, hi, hz, hs1, hb1, hz1⟩ := hT
  have h0 : Array.range 0 = #[] := rfl
  simp [Instr.buildSlice, Instr.fill, run_underlying ht, sizeOf, typeInfo, zeroValue, hi, hz, hs1, newRow, Result.andThen, Value.cells, Array.range_succ, h0]
theorem wp_build0 {o : Oper} {a : Act} {w : World} {K : Act → World → Prop} {Q : Exit → Act → World → Prop} (hT : ElemT P t e 1 8) (ho : o.op = .buildSlice t 0 #[])
    (h : K (a.put o.dst (.slice (some ⟨w.heap.size, 0, none⟩) 0 0)) (w.alloc (.cells #[] e))) : o.wp P a w K Q := by
  unfold Oper.wp
  simp [execOp, ho, run_build0 hT, Result.andThen]
  exact h
theorem wp_build1 {o : Oper} {a : Act} {w : World} {K : Act → World → Prop} {Q : Exit → Act → World → Prop} (hT : ElemT P t e 1 8) {x : Int} {s : Operand} (ho : o.op = .buildSlice t 1 #[(0, s)]) (hs : a.eval s = .int .i64 x)
    (h : K (a.put o.dst (.slice (some ⟨w.heap.size, 0, none⟩) 1 1)) (w.alloc (.cells #[.int .i64 x] e))) : o.wp P a w K Q := by
  unfold Oper.wp
  simp [execOp, ho, hs, run_build1 hT, Result.andThen]
  exact h
theorem eval_put_ne {a : Act} {d x : Tmp} {v : Value} (h : d ≠ x) : (a.put (some d) v).eval (.tmp x) = a.eval (.tmp x) := by
  simp [Act.put, Act.eval, h]
theorem eval_put_self {a : Act} {d : Tmp} {v : Value} (h : d < a.tmps.size) : (a.put (some d) v).eval (.tmp d) = v := by
  simp [Act.put, Act.eval, h]
theorem put_size {a : Act} {d : Tmp} {v : Value} : (a.put (some d) v).tmps.size = a.tmps.size := by simp [Act.put]
theorem put_comm {a : Act} {d x : Tmp} {u v : Value} (h : d ≠ x) : (a.put (some d) u).put (some x) v = (a.put (some x) v).put (some d) u := by
  simp only [Act.put]
  rw [Array.setIfInBounds_comm _ _ h]
theorem cells_one {w : World} {b : Nat} {x : Int} {T : TypeId} (h : Blk w b T [.int .i64 x]) : Cells w (some ⟨b, 0, none⟩) 1 encI [x] := fun i y hy => by
  rcases i with _ | i
  · simp at hy; subst hy
    exact ⟨b, 0, rfl, fun j u hu => by
      rcases j with _ | j
      · simp [encI] at hu; subst hu; exact h.cell rfl
      · simp [encI] at hu⟩
  · simp at hy

/-- What lies behind the two appends. -/
structure PushAt (w w' : World) (A : Option Addr) (c : Nat) (l : List Int) : Prop where
  bl : Below w.heap.size w w'
  ce : Cells w' A 1 encI l
  le : l.length ≤ c
  nw : ∀ k, A.map (·.block) = some k → w.heap.size ≤ k

/-- **The double append, in whatever order.** -/
theorem plan_push {l0 : List Oper} {Q : Exit → Act → World → Prop} {n : Nat} {M : List Nat} {a : Act} {w : World} {p : Plan} {i1 i3 i5 i6 : Nat} {o1 o3 o5 o6 : Oper} {d1 d3 d5 d6 dn dx : Tmp} (hT : ElemT P t e 1 8)
    (V : Option Addr) (q cm : Nat) (l : List Int) (x : Int)
    (e1 : nth l0 i1 = some o1) (e3 : nth l0 i3 = some o3) (e5 : nth l0 i5 = some o5) (e6 : nth l0 i6 = some o6)
    (g1 : o1.guard = none) (g3 : o3.guard = none) (g5 : o5.guard = none) (g6 : o6.guard = none)
    (t1 : o1.dst = some d1) (t3 : o3.dst = some d3) (t5 : o5.dst = some d5) (t6 : o6.dst = some d6)
    (p1 : o1.op = .buildSlice t 0 #[]) (p3 : o3.op = .call { callee := .builtin .append, args := #[.tmp d1, .tmp dn], argTypes := #[t, t] })
    (p5 : o5.op = .buildSlice t 1 #[(0, .tmp dx)]) (p6 : o6.op = .call { callee := .builtin .append, args := #[.tmp d3, .tmp d5], argTypes := #[t, t] })
    (hd : (d1 ≠ d3 ∧ d1 ≠ d5 ∧ d1 ≠ dn ∧ d1 ≠ dx) ∧ (d3 ≠ d5 ∧ d3 ≠ dx) ∧ d5 ≠ dn ∧ d5 ≠ d1 ∧ d5 ≠ d3)
    (hz : d1 < a.tmps.size ∧ d3 < a.tmps.size ∧ d5 < a.tmps.size)
    (hn : a.eval (.tmp dn) = .slice V q cm) (hx : a.eval (.tmp dx) = .int .i64 x) (hq : l.length = q) (hq9 : q ≤ 1000000) (hc : Cells w V 1 encI l)
    (hM : ∀ b, w.heap.size ≤ b → b ≤ w.heap.size + 3 → b ∈ M)
    (h : ∀ (x1 x3 x5 : Value) (A : Option Addr) (c : Nat) (w' : World), PushAt w w' A c (l ++ [x]) →
      wpPlan P l0.toArray Q n M p ((((a.put (some d1) x1).put (some d3) x3).put (some d5) x5).put (some d6) (.slice A (q + 1) c)) w') :
    wpPlan P l0.toArray Q n M (.e2 i1 (.e2 i3 (.e1 i5 (.e1 i6 p)) i5 (.e1 i3 (.e1 i6 p))) i5 (.e1 i1 (.e1 i3 (.e1 i6 p)))) a w := by
  obtain ⟨⟨n13, n15, n1n, n1x⟩, ⟨n35, n3x⟩, n5n, n51, n53⟩ := hd
  obtain ⟨z1, z3, z5⟩ := hz
  have W1 : ∀ y, Region.wanted o1 y = true := fun y => by simp [Region.wanted, g1]
  have W3 : ∀ y, Region.wanted o3 y = true := fun y => by simp [Region.wanted, g3]
  have W5 : ∀ y, Region.wanted o5 y = true := fun y => by simp [Region.wanted, g5]
  have W6 : ∀ y, Region.wanted o6 y = true := fun y => by simp [Region.wanted, g6]
  -- the blocks that a row of the call's own may lie in
  have blk : ∀ {base g : Nat} {v : Value} {u : World}, (v.ownBlock = some g ∨ g = u.heap.size) → (∀ k, v.ownBlock = some k → w.heap.size ≤ k ∧ k ≤ w.heap.size + 3) → w.heap.size ≤ u.heap.size → u.heap.size ≤ w.heap.size + 3 → w.heap.size ≤ g ∧ g ≤ w.heap.size + 3 := by
    intro _ g v u hg hv h1 h2
    rcases hg with hg | rfl
    · exact hv g hg
    · exact ⟨h1, h2⟩
  have bel : ∀ {u u' : World} {v : Value}, u.grownBy u' v.ownBlock → (∀ k, v.ownBlock = some k → w.heap.size ≤ k ∧ k ≤ w.heap.size + 3) → Bel M u u' := by
    intro u u' v hg hv
    refine ⟨hg.os, hg.tape, hg.output, hg.size, fun k hk hm => hg.block k hk (fun e0 => hm ?_)⟩
    have := hv k e0.symm
    exact hM k this.1 this.2
  refine plan_e2 ?_ ?_
  · refine plan_e e1 (W1 _) (fun K hK => wp_build0 hT p1 (hK _ _ (.of (ext_alloc _ _)) ?_))
    rw [t1]
    have ow1 := own_new (α := Int) w e 1 encI
    have s1 : (w.alloc (.cells #[] e)).heap.size = w.heap.size + 1 := by simp
    have hb1 := ext_alloc w (.cells #[] e)
    refine plan_e2 ?_ ?_
    · refine plan_e e3 (W3 _) (fun K hK => wp_app_rows encI t e 1 8 hT (by decide) (by decide) encI_len encI_one _ _ p3 w.heap.size _ [] (eval_put_self z1) ow1 V q cm l hq (by rw [eval_put_ne n1n]; exact hn) (hc.ext hb1) (by simp; omega) (by omega) ?_)
      intro v3 w3 own3 bl3 gr3 at3
      rw [List.nil_append] at own3
      have v3b : ∀ k, v3.ownBlock = some k → w.heap.size ≤ k ∧ k ≤ w.heap.size + 3 := fun k hk => by
        rcases at3 with ⟨rfl, _⟩ | ⟨g, cc, rfl, hg⟩
        · simp [Value.ownBlock] at hk; omega
        · simp [Value.ownBlock] at hk; subst hk
          exact blk (base := 0) hg (fun k hk => by simp [Value.ownBlock] at hk; omega) (by omega) (by omega)
      refine hK _ _ (bel gr3 (fun k hk => by simp [Value.ownBlock] at hk; omega)) ?_
      rw [t3]
      have s3 := gr3.size
      refine plan_e e5 (W5 _) (fun K hK => wp_build1 hT p5 (by rw [eval_put_ne n3x, eval_put_ne n1x]; exact hx) (hK _ _ (.of (ext_alloc _ _)) ?_))
      rw [t5]
      have el := Blk.new w3 e [.int .i64 x]
      change Blk (w3.alloc (.cells #[.int .i64 x] e)) _ _ _ at el
      have hb4 := ext_alloc w3 (.cells #[.int .i64 x] e)
      refine plan_e e6 (W6 _) (fun K hK => wp_app_rows encI t e 1 8 hT (by decide) (by decide) encI_len encI_one _ _ p6 w.heap.size v3 l (by rw [eval_put_ne n53, eval_put_self (by rw [put_size]; exact z3)]) (own3.ext hb4) (some ⟨w3.heap.size, 0, none⟩) 1 1 [x] rfl (eval_put_self (by rw [put_size, put_size]; exact z5)) (cells_one el) (by omega) (by simp; omega) ?_)
      intro v4 w4 own4 bl4 gr4 at4
      refine hK _ _ (bel gr4 v3b) ?_
      rw [t6]
      obtain ⟨A, c, hv4, hlc, -, hC⟩ := own4.cells encI_len
      have hnw := own4.block_ge hv4
      subst hv4
      rw [show (l ++ [x]).length = q + 1 by simp [hq]]
      exact h _ _ _ A c w4 ⟨((hb1.trans bl3).trans (hb4.mono (by omega))).trans bl4, hC, hlc, fun k hk => (hnw k hk).1⟩
    · refine plan_e e5 (W5 _) (fun K hK => wp_build1 hT p5 (by rw [eval_put_ne n1x]; exact hx) (hK _ _ (.of (ext_alloc _ _)) ?_))
      rw [t5]
      have el := Blk.new (w.alloc (.cells #[] e)) e [.int .i64 x]
      change Blk ((w.alloc (.cells #[] e)).alloc (.cells #[.int .i64 x] e)) _ _ _ at el
      have hb2 := ext_alloc (w.alloc (.cells #[] e)) (.cells #[.int .i64 x] e)
      have s2 : ((w.alloc (.cells #[] e)).alloc (.cells #[.int .i64 x] e)).heap.size = w.heap.size + 2 := by simp
      refine plan_e e3 (W3 _) (fun K hK => wp_app_rows encI t e 1 8 hT (by decide) (by decide) encI_len encI_one _ _ p3 w.heap.size _ [] (by rw [eval_put_ne n51]; exact eval_put_self z1) (ow1.ext hb2) V q cm l hq (by rw [eval_put_ne n5n, eval_put_ne n1n]; exact hn) ((hc.ext hb1).ext hb2) (by simp; omega) (by omega) ?_)
      intro v3 w3 own3 bl3 gr3 at3
      rw [List.nil_append] at own3
      have v3b : ∀ k, v3.ownBlock = some k → w.heap.size ≤ k ∧ k ≤ w.heap.size + 3 := fun k hk => by
        rcases at3 with ⟨rfl, _⟩ | ⟨g, cc, rfl, hg⟩
        · simp [Value.ownBlock] at hk; omega
        · simp [Value.ownBlock] at hk; subst hk
          exact blk (base := 0) hg (fun k hk => by simp [Value.ownBlock] at hk; omega) (by omega) (by omega)
      refine hK _ _ (bel gr3 (fun k hk => by simp [Value.ownBlock] at hk; omega)) ?_
      rw [t3, s1] at *
      have s3 := gr3.size
      have el3 : Blk w3 (w.heap.size + 1) e [.int .i64 x] := (gr3.block _ el.lt (by simp [Value.ownBlock])).trans el
      refine plan_e e6 (W6 _) (fun K hK => wp_app_rows encI t e 1 8 hT (by decide) (by decide) encI_len encI_one _ _ p6 w.heap.size v3 l (by rw [eval_put_self (by rw [put_size, put_size]; exact z3)]) own3 (some ⟨w.heap.size + 1, 0, none⟩) 1 1 [x] rfl (by rw [eval_put_ne n35]; exact eval_put_self (by rw [put_size]; exact z5)) (cells_one el3) (by omega) (by omega) ?_)
      intro v4 w4 own4 bl4 gr4 at4
      refine hK _ _ (bel gr4 v3b) ?_
      rw [t6]
      obtain ⟨A, c, hv4, hlc, -, hC⟩ := own4.cells encI_len
      have hnw := own4.block_ge hv4
      subst hv4
      rw [show (l ++ [x]).length = q + 1 by simp [hq], put_comm n53]
      exact h _ _ _ A c w4 ⟨((hb1.trans (hb2.mono (by omega))).trans bl3).trans bl4, hC, hlc, fun k hk => (hnw k hk).1⟩
  · refine plan_e e5 (W5 _) (fun K hK => wp_build1 hT p5 hx (hK _ _ (.of (ext_alloc _ _)) ?_))
    rw [t5]
    have el := Blk.new w e [.int .i64 x]
    change Blk (w.alloc (.cells #[.int .i64 x] e)) _ _ _ at el
    have hb1 := ext_alloc w (.cells #[.int .i64 x] e)
    have s1 : (w.alloc (.cells #[.int .i64 x] e)).heap.size = w.heap.size + 1 := by simp
    refine plan_e e1 (W1 _) (fun K hK => wp_build0 hT p1 (hK _ _ (.of (ext_alloc _ _)) ?_))
    rw [t1]
    have ow1 := own_new (α := Int) (w.alloc (.cells #[.int .i64 x] e)) e 1 encI
    have hb2 := ext_alloc (w.alloc (.cells #[.int .i64 x] e)) (.cells #[] e)
    have s2 : ((w.alloc (.cells #[.int .i64 x] e)).alloc (.cells #[] e)).heap.size = w.heap.size + 2 := by simp
    have el2 := el.ext hb2
    refine plan_e e3 (W3 _) (fun K hK => wp_app_rows encI t e 1 8 hT (by decide) (by decide) encI_len encI_one _ _ p3 _ _ [] (eval_put_self (by rw [put_size]; exact z1)) ow1 V q cm l hq (by rw [eval_put_ne n1n, eval_put_ne n5n]; exact hn) ((hc.ext hb1).ext hb2) (by simp; omega) (by omega) ?_)
    intro v3 w3 own3 bl3 gr3 at3
    rw [List.nil_append] at own3
    rw [s1] at *
    have v3b : ∀ k, v3.ownBlock = some k → w.heap.size ≤ k ∧ k ≤ w.heap.size + 3 := fun k hk => by
      rcases at3 with ⟨rfl, _⟩ | ⟨g, cc, rfl, hg⟩
      · simp [Value.ownBlock] at hk; omega
      · simp [Value.ownBlock] at hk; subst hk
        exact blk (base := 0) hg (fun k hk => by simp [Value.ownBlock] at hk; omega) (by omega) (by omega)
    refine hK _ _ (bel gr3 (fun k hk => by simp [Value.ownBlock] at hk; omega)) ?_
    rw [t3]
    have s3 := gr3.size
    have el3 : Blk w3 w.heap.size e [.int .i64 x] := (gr3.block _ el2.lt (by simp [Value.ownBlock])).trans el2
    refine plan_e e6 (W6 _) (fun K hK => wp_app_rows encI t e 1 8 hT (by decide) (by decide) encI_len encI_one _ _ p6 (w.heap.size + 1) v3 l (by rw [eval_put_self (by rw [put_size, put_size]; exact z3)]) own3 (some ⟨w.heap.size, 0, none⟩) 1 1 [x] rfl (by rw [eval_put_ne n35, eval_put_ne n15]; exact eval_put_self z5) (cells_one el3) (by omega) (by omega) ?_)
    intro v4 w4 own4 bl4 gr4 at4
    refine hK _ _ (bel gr4 v3b) ?_
    rw [t6]
    obtain ⟨A, c, hv4, hlc, -, hC⟩ := own4.cells encI_len
    have hnw := own4.block_ge hv4
    subst hv4
    rw [show (l ++ [x]).length = q + 1 by simp [hq], put_comm n51, put_comm n53]
    exact h _ _ _ A c w4 ⟨((hb1.trans (hb2.mono (by omega))).trans (bl3.mono (by omega))).trans (bl4.mono (by omega)), hC, hlc, fun k hk => by have := (hnw k hk).1; omega⟩
end
end Go.Bs

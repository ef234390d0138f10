/- append of one int onto a row of the call's own: in place, or into a new row; which of the two is told. -/
import Derived.Test.YtopfhinnamhoiaaOwn
namespace Go.Bs
open Go.RowKit Go.Sort Go.Pl

section
variable {P : Program} {w : World}
theorem run_append_two (base : Nat) (t ty e : TypeId) (i : TypeInfo) (z : Value) (size bytes : Nat) (ht : P.underlying t = some (.slice e)) (hi : P.info? e = some i) (hz : i.zero = some z)
    (hsize : i.size = size) (hby : i.bytes = bytes) (hzs : z.cells.size = size) (hsz : 0 < size)
    (v : Value) (n : Nat) (xs : List Value) (hown : w.ownsRow base e size v n xs)
    (a : Addr) (m c : Nat) (news : List Value) (hl : news.length = m * size) (hnews : ∀ j u, news[j]? = some u → w.cell? (a.add j) = some u) (h1 : ∀ u ∈ news, u.oneCell' = true)
    (hm : 0 < m) (h63 : n + m ≤ maxLen) (hbytes : (n + m) * bytes ≤ 140737488355328) (hbase : base ≤ w.heap.size) :
    (∃ g cap w', v = .slice (some ⟨g, 0, none⟩) n cap ∧ (Builtin.append_ #[t, t] ty #[v, .slice (some a) m c]).run P w = .ok (.slice (some ⟨g, 0, none⟩) (n + m) cap) w' ∧
      w'.ownsRow base e size (.slice (some ⟨g, 0, none⟩) (n + m) cap) (n + m) (xs ++ news) ∧ w.grownBy w' (some g)) ∨
    (∃ cap w', (Builtin.append_ #[t, t] ty #[v, .slice (some a) m c]).run P w = .ok (.slice (some ⟨w.heap.size, 0, none⟩) (n + m) cap) w' ∧
      w'.ownsRow base e size (.slice (some ⟨w.heap.size, 0, none⟩) (n + m) cap) (n + m) (xs ++ news) ∧ w.grownBy w' none) := by
  subst hsize
  subst hby
  have hsmall : n + m ≤ 9223372036854775807 := by simp only [maxLen] at h63; omega
  have hlen : (xs ++ news).length = (n + m) * i.size := by rw [List.length_append, hown.1, hl, Nat.add_mul]
  have grown : ∀ (old : Nat), old < n + m →
      (w.drew.alloc (.cells (xs.toArray ++ news.toArray ++ Builtin.zeroCells z.cells (grownCap w (n + m) old e - (n + m))) e)).ownsRow base e i.size
        (.slice (some ⟨w.heap.size, 0, none⟩) (n + m) (grownCap w (n + m) old e)) (n + m) (xs ++ news) ∧
      w.grownBy (w.drew.alloc (.cells (xs.toArray ++ news.toArray ++ Builtin.zeroCells z.cells (grownCap w (n + m) old e - (n + m))) e)) none := by
    intro old ho
    have hge := grownCap_ge w (n + m) old e
    have hcm : grownCap w (n + m) old e ≤ maxLen := grownCap_le_maxLen w (n + m) old e h63
    refine ⟨⟨hlen, .inr ⟨w.heap.size, _, _, rfl, hbase, heap_alloc_new w.drew _, hge, hcm, ?_, ?_⟩⟩, ⟨rfl, rfl, rfl, by simp, fun k hk _ => _root_.Go.heap_alloc_old w.drew _ hk⟩⟩
    · simp only [Array.size_append, List.size_toArray, size_zeroCells, hzs, hown.1, hl, ← Nat.add_mul]
      congr 1
      omega
    · simp only [Array.toList_append, List.append_assoc]
      rw [← List.append_assoc, ← hlen]
      exact List.take_left
  rcases hown.2 with ⟨rfl, rfl⟩ | ⟨g, cap, cur, rfl, hbg, hg, hnc, hcm, hcs, htake⟩
  · have hx : xs = [] := List.eq_nil_of_length_eq_zero (by simpa using hown.1)
    subst hx
    right
    have hr := run_append_nil (P := P) w t ty e i z ht hi hz a m c news hl hnews (by omega) (by omega) (by have hb := hbytes; simp only [Nat.zero_add] at hb; omega)
    have hgr := grown 0 (by omega)
    simp only [Nat.zero_add, List.nil_append, Array.empty_append] at hgr ⊢
    exact ⟨_, _, hr, hgr.1, hgr.2⟩
  · by_cases hroom : n + m ≤ cap
    · left
      have hfit : n * i.size + news.length ≤ cur.size := by rw [hl, hcs, ← Nat.add_mul]; exact Nat.mul_le_mul_right _ hroom
      have hr := run_append_room (P := P) w t ty e i ht hi g n cap cur hg a m c news hl hnews h1 hroom hfit
      refine ⟨g, cap, _, rfl, hr, ⟨hlen, .inr ⟨g, cap, _, rfl, hbg, setRow_heap w g cur _ e _ hg, hroom, hcm, ?_, ?_⟩⟩, ⟨rfl, rfl, rfl, by simp, fun k _ hk => setRow_other w g k _ (fun e => hk (by simp [e]))⟩⟩
      · simp only [List.size_toArray, List.length_append, List.length_take, List.length_drop, Array.length_toList]
        omega
      · rw [htake, ← hlen]
        exact List.take_left
    · right
      have holds : ∀ j u, xs[j]? = some u → w.cell? ((⟨g, 0, none⟩ : Addr).add j) = some u := hown.cells (g := g) rfl
      have hr := run_append_grow (P := P) w t ty e i z ht hi hz ⟨g, 0, none⟩ n cap xs hown.1 holds a m c news hl hnews (by omega) (by omega) (growslice_fits (by omega) hbytes)
      have hgr := grown cap (by omega)
      exact ⟨_, _, hr, hgr.1, hgr.2⟩
end

/-- append(s, y) at an operation: in place, or into a new row. -/
theorem app1_two {P : Program} {o : Oper} {a : Act} {K : Act → World → Prop} {Q : Exit → Act → World → Prop} {w : World} (t e : TypeId) (hT : ElemT P t e 1 8) (s x : Operand)
    (ho : o.op = .call { callee := .builtin .append, args := #[s, x], argTypes := #[t, t] }) (base : Nat) (v : Value) (l : List Int) (hs : a.eval s = v) (hown : OwnL w base e 1 encI v l)
    (g : Nat) (hx : a.eval x = .slice (some ⟨g, 0, none⟩) 1 1) (y : Int) (hc : w.cell? ⟨g, 0, none⟩ = some (.int .i64 y)) (hlen : l.length ≤ 1000000) (hbase : base ≤ w.heap.size)
    (h : ∀ v' w', OwnL w' base e 1 encI v' (l ++ [y]) → ((∃ g' cap, v = .slice (some ⟨g', 0, none⟩) l.length cap ∧ v' = .slice (some ⟨g', 0, none⟩) (l.length + 1) cap ∧ w.grownBy w' (some g')) ∨ (∃ cap, v' = .slice (some ⟨w.heap.size, 0, none⟩) (l.length + 1) cap ∧ w.grownBy w' none)) → K (a.put o.dst v') w') : o.wp P a w K Q := by
  obtain ⟨i, z, ht, hi, hz, hs1, hb1, hz1⟩ := hT
  have key := run_append_two (P := P) (w := w) base t o.type e i z 1 8 ht hi hz hs1 hb1 hz1 (by decide) v l.length (l.flatMap encI) hown ⟨g, 0, none⟩ 1 1 (encI y) rfl ?_ (encI_one y) (by decide) (by unfold maxLen; omega) (by omega) hbase
  · rcases key with ⟨g', cap, w', hv, hr, h2, h3⟩ | ⟨cap, w', hr, h2, h3⟩
    · unfold Oper.wp execOp
      simp only [ho, resolve, invoke, builtin, Sem.run_bind, Sem.run_pure, Result.andThen_ok, List.map_toArray, List.map_cons, List.map_nil, hs, hx, hr]
      refine h _ _ ?_ (.inl ⟨g', cap, hv, rfl, h3⟩)
      unfold OwnL
      rw [List.length_append, List.flatMap_append]
      simpa using h2
    · unfold Oper.wp execOp
      simp only [ho, resolve, invoke, builtin, Sem.run_bind, Sem.run_pure, Result.andThen_ok, List.map_toArray, List.map_cons, List.map_nil, hs, hx, hr]
      refine h _ _ ?_ (.inr ⟨cap, rfl, h3⟩)
      unfold OwnL
      rw [List.length_append, List.flatMap_append]
      simpa using h2
  · intro j u hj
    have := encI_cell hc j u hj
    unfold Addr.add
    split
    · rename_i h0; subst h0; exact this
    · simpa using this
/-- What is left of a row when its last int is no longer counted. -/
theorem OwnL.back {w : World} {base : Nat} {e : TypeId} {g n cap : Nat} {l : List Int} {y : Int} (hn : l.length = n) (h : OwnL w base e 1 encI (.slice (some ⟨g, 0, none⟩) (n + 1) cap) (l ++ [y])) : OwnL w base e 1 encI (.slice (some ⟨g, 0, none⟩) n cap) l := by
  obtain ⟨h1, h2⟩ := h
  have hfm : ∀ k : List Int, (k.flatMap encI).length = k.length := fun k => by induction k with | nil => rfl | cons y k ih => simp [List.flatMap_cons, ih, encI_len]; omega
  refine ⟨by rw [hfm]; omega, ?_⟩
  rcases h2 with ⟨h2, _⟩ | ⟨g', cap', cur, hv, hb, hg, hnc, hcm, hcs, htk⟩
  · cases h2
  · simp only [Value.slice.injEq, Option.some.injEq, Addr.mk.injEq] at hv
    obtain ⟨⟨rfl, -, -⟩, -, rfl⟩ := hv
    refine .inr ⟨g, cap, cur, by rw [hn], hb, hg, by simp at hnc; omega, hcm, hcs, ?_⟩
    rw [List.length_append, List.flatMap_append] at htk
    have h3 := congrArg (List.take l.length) htk
    rw [List.take_take] at h3
    have h4 : List.take l.length (l.flatMap encI ++ [y].flatMap encI) = l.flatMap encI := by
      rw [← hfm l]; exact List.take_left
    rw [h4] at h3
    rw [← h3]
    congr 1
    simp
end Go.Bs

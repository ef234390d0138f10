/- The best first act; what the search asks of those that may follow. -/
import Derived.Test.YtcnidhcdkbfpcaaPrgY
namespace Go.Pg
open Go.Pl
def scan (f : Nat → Int) (l : List Nat) : Int × Int := l.foldl (fun cf a => if f a < cf.1 then (f a, (a : Int)) else cf) (maxT, -1)
theorem scan_snoc (f : Nat → Int) (l : List Nat) (a : Nat) : scan f (l ++ [a]) = if f a < (scan f l).1 then (f a, (a : Int)) else scan f l := by unfold scan; rw [List.foldl_append]; rfl
theorem scan_min (f : Nat → Int) (l : List Nat) : (scan f l).1 = minL maxT (l.map f) := by
  have : ∀ n, n ≤ l.length → (scan f (l.take n)).1 = minL maxT ((l.take n).map f) := by
    intro n
    induction n with
    | zero => intro _; rfl
    | succ n ih =>
      intro hn
      rw [List.take_succ_eq_append_getElem (by omega), scan_snoc, List.map_append, minL_append, ← ih (by omega)]
      show _ = min (scan f (l.take n)).1 (f l[n])
      split
      · simp only; omega
      · omega
  have h := this l.length (Nat.le_refl _)
  rwa [List.take_length] at h
theorem scan_first (f : Nat → Int) (l : List Nat) : ((scan f l).1 = maxT ∧ (scan f l).2 = -1) ∨ ((scan f l).1 < maxT ∧ ∃ a, l.find? (fun a => decide (f a = (scan f l).1)) = some a ∧ (scan f l).2 = a) := by
  have : ∀ n, n ≤ l.length → ((scan f (l.take n)).1 = maxT ∧ (scan f (l.take n)).2 = -1) ∨ ((scan f (l.take n)).1 < maxT ∧ ∃ a, (l.take n).find? (fun a => decide (f a = (scan f (l.take n)).1)) = some a ∧ (scan f (l.take n)).2 = a) := by
    intro n
    induction n with
    | zero => intro _; exact .inl ⟨rfl, rfl⟩
    | succ n ih =>
      intro hn
      have hmin := scan_min f (l.take n)
      rw [List.take_succ_eq_append_getElem (by omega), scan_snoc]
      have ih := ih (by omega)
      split
      · rename_i hlt
        right
        refine ⟨by rcases ih with h | h
                   · simp only; omega
                   · simp only; omega, l[n], ?_, rfl⟩
        rw [List.find?_append, List.find?_eq_none.2]
        · simp
        · intro x hx
          have h2 : minL maxT ((l.take n).map f) ≤ f x := minL_mem_le (List.mem_map_of_mem hx)
          rw [← hmin] at h2
          simp only [decide_eq_true_eq]
          omega
      · rcases ih with h | ⟨h1, a, h2, h3⟩
        · exact .inl h
        · refine .inr ⟨h1, a, ?_, h3⟩
          rw [List.find?_append, h2]; rfl
  have h := this l.length (Nat.le_refl _)
  rwa [List.take_length] at h
theorem scan_least (s : Sh) : (scan (fun a => s.best (Sh.one a)) s.firsts).1 = s.least := scan_min _ _
/-- what the scan says of the best programme -/
theorem scan_solve (s : Sh) : ((scan (fun a => s.best (Sh.one a)) s.firsts).2 = -1 ∧ s.solve = none) ∨
    ∃ a, a ∈ s.firsts ∧ (scan (fun a => s.best (Sh.one a)) s.firsts).2 = (a : Nat) ∧ s.best (Sh.one a) = s.least ∧ s.least < maxT ∧ s.solve = some (a :: s.greedy (s.acts.length - 1) (Sh.one a)) := by
  have hl := scan_least s
  rcases scan_first (fun a => s.best (Sh.one a)) s.firsts with ⟨h1, h2⟩ | ⟨h1, a, h2, h3⟩
  · left
    refine ⟨h2, ?_⟩
    unfold Sh.solve
    rw [if_neg (by rw [← hl, h1]; omega)]
  · right
    rw [hl] at h1 h2
    refine ⟨a, List.mem_of_find?_eq_some h2, h3, by simpa using List.find?_some h2, h1, ?_⟩
    unfold Sh.solve Sh.head
    rw [if_pos h1, h2]; rfl
/-- how the greedy way goes on -/
theorem greedy_next {s : Sh} {x : St} {k : Nat} (hok : s.Ok) (hx : x.set < 2 ^ s.acts.length) (hk : s.left x = k + 1) (hb : s.best x < maxT) :
    ∃ i, ∃ h : i < (s.fol x).length, Go.Bs.idxF (fun y => decide (y.cost + s.best y.st = s.best x)) (s.fol x) = (i : Int) ∧ s.greedy (k + 1) x = (s.fol x)[i].act :: s.greedy k (s.fol x)[i].st ∧ s.best (s.fol x)[i].st < maxT ∧ s.left (s.fol x)[i].st = k := by
  have hne : x.set ≠ s.whole := fun h => by have := (Sh.whole_iff hx).1 h; unfold Sh.left at hk; omega
  have hm := Sh.best_min (s := s) x
  rw [if_neg hne] at hm
  have hex : ∃ y ∈ s.fol x, decide (y.cost + s.best y.st = s.best x) = true := by
    rcases minL_hit maxT ((s.fol x).map fun y => y.cost + s.best y.st) with h | h
    · omega
    · obtain ⟨y, hy, he⟩ := List.mem_map.1 h
      exact ⟨y, hy, by simp [he, ← hm]⟩
  have hlt : (s.fol x).findIdx (fun y => decide (y.cost + s.best y.st = s.best x)) < (s.fol x).length := List.findIdx_lt_length_of_exists hex
  refine ⟨_, hlt, ?_, ?_, ?_, ?_⟩
  · unfold Go.Bs.idxF
    rw [List.any_eq_true.2 hex]; rfl
  · rw [Sh.greedy_succ]
    have hf : (s.fol x).find? (fun y => decide (y.cost + s.best y.st = s.best x)) = some ((s.fol x)[(s.fol x).findIdx (fun y => decide (y.cost + s.best y.st = s.best x))]) := by
      rw [List.find?_eq_getElem?_findIdx, List.getElem?_eq_getElem hlt]
    rw [hf]
  · have h1 := List.findIdx_getElem (xs := s.fol x) (p := fun y => decide (y.cost + s.best y.st = s.best x)) (w := hlt)
    have h2 := of_decide_eq_true h1
    obtain ⟨c, -, -, e⟩ := Sh.fol_mem (List.getElem_mem hlt)
    have h3 := hok.chC x.last c
    have h4 : (s.fol x)[(s.fol x).findIdx (fun y => decide (y.cost + s.best y.st = s.best x))].cost = s.chC x.last c := by rw [e]; rfl
    omega
  · have := Sh.fol_left (List.getElem_mem hlt)
    omega
end Go.Pg
namespace Go.Proofs.Ytcnidhcdkbfpcaa
open Go.RowKit Go.Bs Go.Pg Go.Pl Go.Sort
set_option maxHeartbeats 800000 in
theorem index_st (g : Nat) (lb : Array Value) (p : Nx → Bool) (M : List Nat) (A : Option Addr) (n cap : Nat) (l : List Nx) (w : World) (eg : Enters Try.prog g) (hn : l.length = n) (hm : n ≤ 1000000000) (hd : Cells w A 5 Nx.enc l) (hA : ∀ k, A.map (·.block) = some k → k ∉ M)
    (I : Nat → World → Prop) (h0 : I 0 w) (hp : ∀ (i : Nat) (h : i < l.length) (W : World), Dr.Bel M w W → I i W → Calls Try.prog g (#[Nx.val l[i]] ++ lb) W fun e W' => e = .returned (.bool (p l[i])) ∧ Dr.Bel M W W' ∧ I (i + 1) W') :
    Calls Try.prog 72 #[.slice A n cap, .func (.func g) #[] lb] w fun e w' => e = .returned (.int .i64 (idxF p l)) ∧ Dr.Bel M w w' ∧ ∃ i, i ≤ n ∧ I i w' := by
  have Hn := Lib.hid hn
  clear hn
  generalize hres : idxF p l = res
  have Hres := Lib.hid hres
  clear hres
  unfold Enters at eg
  have H0 := Lib.hid h0
  clear h0
  go_enter Try.func72, Try.ntmps72
  go_wp2
  go_loopw [5, 8] (fun _ t wr => ∃ (k : Nat), k ≤ n ∧ t = .int .i64 k ∧ Hid (∀ x ∈ l.take k, p x = false) ∧ Dr.Bel M w wr ∧ Hid (I k wr)) (fun _ t _ => n - (intOf t).toNat)
  case atStart => exact ⟨0, by omega, rfl, Lib.hid (by simp), Dr.Bel.refl _ _, Lib.hid H0.out⟩
  case round =>
    obtain ⟨k, hk, rfl, Hk, hb, HS⟩ := hrel
    by_cases hlt : k < n
    · have hk1 : k < l.length := by rw [Hn.out]; exact hlt
      obtain ⟨b, off, rfl, hbl, c0, c1, c2, c3, c4⟩ := (Dr.cells_bel hd hb hA).at5 hk1 rfl
      have hc := hp k hk1 wr hb HS.out
      have hz : (0 : Int) ≤ k := by omega
      cases hq : p l[k]
      · rw [hq] at hc
        have Hq := Lib.hid hq
        have Hc := Lib.hid hc
        clear hc hq hp
        go_wp2_with fail
        refine Hc.out.mono ?_; rintro e w1 ⟨rfl, hb1, hs1⟩
        have HS1 := Lib.hid hs1
        clear hs1
        go_wp2
        go_roundw
        case rel => exact ⟨k + 1, by omega, by go_num, Lib.hid (fun x hx => by
          rw [List.take_succ_eq_append_getElem hk1] at hx
          rcases List.mem_append.1 hx with hx | hx
          · exact Hk.out x hx
          · simp at hx; rw [hx]; exact Hq.out), hb.trans hb1, HS1⟩
        case measure => simp [intOf]; omega
      · rw [hq] at hc
        have Hq := Lib.hid hq
        have Hc := Lib.hid hc
        clear hc hq hp
        go_wp2_with fail
        refine Hc.out.mono ?_; rintro e w1 ⟨rfl, hb1, hs1⟩
        have HS1 := Lib.hid hs1
        clear hs1
        go_wp2
        go_ret
        exact ⟨ret_congr (int_congr (by rw [← Hres.out, idxF_hit hk1 Hq.out Hk.out])), hb.trans hb1, k + 1, by omega, HS1.out⟩
    · go_wp2
      go_ret
      exact ⟨ret_congr (int_congr (by rw [← Hres.out, idxF_miss (fun x hx => Hk.out x (by rw [List.take_of_length_le (by rw [Hn.out]; omega)]; exact hx))])), hb, k, hk, HS.out⟩
theorem ofC_mono {s : Sh} {p : ShP} {w0 : World} {F S G O B : Nat} {x : St} {a b : Nat} (h : OfC w0 s p F S G O B x a) (hab : a ≤ b) : OfC w0 s p F S G O B x b := by
  intro n W hof hmap hn
  refine (h n W hof hmap (Nat.le_trans (Nat.add_le_add_left hab n) hn)).mono ?_
  rintro e W' ⟨h1, h2, h3⟩
  exact ⟨h1, h2, h3.mono (Nat.add_le_add_left hab n)⟩
theorem of_8 (s : Sh) (p : ShP) (w0 : World) (F S G O B : Nat) (h0 : ShM w0 s p) (hok : s.Ok) (x : St) (hx : StOk s x) : OfC w0 s p F S G O B x 100000000 :=
  ofC_mono (of_any s p w0 F S G O B h0 hok _ x hx rfl) (updN_8 (Nat.le_trans (left_le _ _) hok.n8))
set_option maxRecDepth 100000 in
set_option maxHeartbeats 2000000 in
theorem pred_any (s : Sh) (p : ShP) (w0 : World) (F S G O B T X : Nat) (h0 : ShM w0 s p) (hok : s.Ok) (x : St) (y : Nx) (hx : StOk s x) (hy : y ∈ s.fol x) (n : Nat) (W : World) (hof : OfM w0 s p F S G O B W) (hmap : MapG s W B n) (U : Nat) (hu : ∀ z, StOk s z → OfC w0 s p F S G O B z U) (hn : n + U + U ≤ 1000000000000000000)
    (hT : Blk W T 85 [.func (.func 96) #[] #[.pointer (some ⟨F, 0, none⟩), .pointer (some ⟨S, 0, none⟩), .pointer (some ⟨G, 0, none⟩), .pointer (some ⟨O, 0, none⟩)]]) (hX : Blk W X 90 (stC x)) (hTB : T ≠ B) (hXB : X ≠ B) :
    Calls Try.prog 73 #[Nx.val y, .pointer (some ⟨T, 0, none⟩), .pointer (some ⟨X, 0, none⟩)] W fun e W' => e = .returned (.bool (decide (y.cost + s.best y.st = s.best x))) ∧ Dr.Bel [B] W W' ∧ MapG s W' B (n + U + U) := by
  have HY := Lib.hid (hu y.st (hx.fol hy))
  have HX := Lib.hid (hu x hx)
  have b1 : 0 ≤ s.best y.st ∧ s.best y.st ≤ 1000000 := Sh.best_bd hok _
  have b2 : 0 ≤ s.best x ∧ s.best x ≤ 1000000 := Sh.best_bd hok _
  have b3 : 0 ≤ y.cost ∧ y.cost ≤ 1960 := by
    obtain ⟨c, -, -, rfl⟩ := Sh.fol_mem hy
    exact hok.chC x.last c
  clear h0 hok hx hy hu
  have hb0 := ext_alloc W (.cells (Nx.enc y).toArray 117)
  have hY := Blk.new W 117 (Nx.enc y)
  have hof0 := hof.ext hb0
  have hm0 := hmap.ext hb0
  have hT0 := hT.ext hb0
  have hX0 := hX.ext hb0
  have hYB : B ≠ W.heap.size := by have := hmap.lt; omega
  clear hof hmap hT hX
  unfold Nx.val
  unfold stC at *
  go_enter Try.func73, Try.ntmps73
  go_upto_region 1 with fail
  change Blk (W.alloc (.cells #[.int .i64 y.act, .int .i64 y.cost, .int .u16 y.st.set, .int .i64 y.st.last, .int .i64 y.st.sec] 117)) _ _ _ at hY
  change Below W.heap.size W (W.alloc (.cells #[.int .i64 y.act, .int .i64 y.cost, .int .u16 y.st.set, .int .i64 y.st.last, .int .i64 y.st.sec] 117)) at hb0
  change OfM w0 s p F S G O B (W.alloc (.cells #[.int .i64 y.act, .int .i64 y.cost, .int .u16 y.st.set, .int .i64 y.st.last, .int .i64 y.st.sec] 117)) at hof0
  change MapG s (W.alloc (.cells #[.int .i64 y.act, .int .i64 y.cost, .int .u16 y.st.set, .int .i64 y.st.last, .int .i64 y.st.sec] 117)) _ _ at hm0
  change Blk (W.alloc (.cells #[.int .i64 y.act, .int .i64 y.cost, .int .u16 y.st.set, .int .i64 y.st.last, .int .i64 y.st.sec] 117)) _ _ _ at hT0 hX0
  generalize W.alloc (.cells #[.int .i64 y.act, .int .i64 y.cost, .int .u16 y.st.set, .int .i64 y.st.last, .int .i64 y.st.sec] 117) = W0 at *
  refine Dr.wp_region_plan 12 [B] (.q [0, 1, 2, 3, 4, 7, 8] (.e1 5 (.q [6] (.e1 9 (.q [10, 11] .done))))) (by kernel_rfl) (by kernel_rfl) ?_
  have hof1 := hof0.ext (ext_drew W0)
  have hm1 := hm0.ext (ext_drew W0)
  have hT1 := hT0.ext (ext_drew W0)
  have hX1 := hX0.ext (ext_drew W0)
  have hY1 := hY.ext (ext_drew W0)
  have hb1 := hb0.drew
  clear hof0 hm0 hT0 hX0 hY hb0
  generalize World.drew _ = V at *
  have q0 := Dr.cls_cell (M := [B]) (hT1.cell (i := 0) rfl) (by simp; omega)
  have q1 := Dr.cls_cell (M := [B]) (hY1.cell (i := 1) rfl) (by simp; omega)
  have q2 := Dr.cls_cell (M := [B]) (hY1.cell (i := 2) rfl) (by simp; omega)
  have q3 := Dr.cls_cell (M := [B]) (hY1.cell (i := 3) rfl) (by simp; omega)
  have q4 := Dr.cls_cell (M := [B]) (hY1.cell (i := 4) rfl) (by simp; omega)
  have q5 := Dr.cls_cell (M := [B]) (hX1.cell (i := 0) rfl) (by simp; omega)
  have q6 := Dr.cls_cell (M := [B]) (hX1.cell (i := 1) rfl) (by simp; omega)
  have q7 := Dr.cls_cell (M := [B]) (hX1.cell (i := 2) rfl) (by simp; omega)
  refine Dr.plan_q (l := [_, _, _, _, _, _, _]) rfl (fun K hK => ?_)
  iterate 7 (go_big_quiet_step (fail))
  refine wpQuiet_nil (hK _ ?_); clear hK K
  clear q0 q1 q2 q3 q4 q5 q6 q7 hT1 hX1 hY1
  have CY := Lib.hid (HY.out n V hof1 hm1 (by omega))
  unfold St.val at CY
  refine Dr.plan_e rfl (by rfl) (fun K hK => ?_)
  go_wp2_with fail
  refine CY.out.mono ?_; rintro e V2 ⟨rfl, hx2, hm2⟩
  refine hK _ _ hx2 ?_; clear hK K CY
  have hof2 := hof1.bel hx2
  have hb2 := (Dr.Bel.of hb1).trans hx2
  clear hof1 hm1 hb1 hx2
  refine Dr.plan_q (l := [_]) rfl (fun K hK => ?_)
  iterate 1 (go_big_quiet_step (fail))
  refine wpQuiet_nil (hK _ ?_); clear hK K
  have CX := Lib.hid (HX.out (n + U) V2 hof2 hm2 hn)
  unfold St.val at CX
  refine Dr.plan_e rfl (by rfl) (fun K hK => ?_)
  go_wp2_with fail
  refine CX.out.mono ?_; rintro e V3 ⟨rfl, hx3, hm3⟩
  refine hK _ _ hx3 ?_; clear hK K CX
  have hb3 := hb2.trans hx3
  clear hof2 hm2 hb2 hx3
  refine Dr.plan_q (l := [_, _]) rfl (fun K hK => ?_)
  iterate 2 (go_big_quiet_step (fail))
  refine wpQuiet_nil (hK _ ?_); clear hK K
  refine Dr.plan_end rfl ?_
  generalize hv1 : s.best y.st = v1 at *
  generalize hv2 : s.best x = v2 at *
  have Hv1 := Lib.hid hv1
  have Hv2 := Lib.hid hv2
  clear hv1 hv2
  go_wp2
  go_ret
  exact ⟨ret_congr (bool_congr (by first | rfl | (rw [Bool.eq_iff_iff]; simp [Hv1.out, Hv2.out]))), hb3, hm3⟩
end Go.Proofs.Ytcnidhcdkbfpcaa

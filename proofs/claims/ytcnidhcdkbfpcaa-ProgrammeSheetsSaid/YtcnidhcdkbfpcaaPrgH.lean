/- Walk: does a person of two acts need more rest? -/
import Derived.Test.YtcnidhcdkbfpcaaPrgG
namespace Go.Pg
open Go.RowKit Go.Bs Go.Pl
structure TiI (w : World) (s : Sh) (p : ShP) (bt : Int) (r : Bool) (W : World) : Prop where
  bl : Below w.heap.size w W
  bs : Blk W w.heap.size 35 (shC s p)
  bb : Blk W (w.heap.size + 1) 3 [.int .i64 bt]
  br : Blk W (w.heap.size + 2) 4 [.bool r]
section
variable {w W W' : World} {s : Sh} {p : ShP} {bt : Int} {r : Bool}
theorem TiI.ext (h : TiI w s p bt r W) (hb : Below W.heap.size W W') : TiI w s p bt r W' := ⟨h.bl.trans (hb.mono h.bl.size), h.bs.ext hb, h.bb.ext hb, h.br.ext hb⟩
theorem TiI.grown {row : Option Nat} (h : TiI w s p bt r W) (hg : W.grownBy W' row) (hr : ∀ r, row = some r → w.heap.size ≤ r ∧ ∃ o : Obj, W.heap[r]? = some o ∧ o.isCells = false) : TiI w s p bt r W' := by
  have hr' := fun r e => (hr r e).2
  exact ⟨below_grown h.bl h.bl.size hg (fun k e => (hr k e).1), Blk.kept h.bs hg hr', Blk.kept h.bb hg hr', Blk.kept h.br hg hr'⟩
theorem TiI.set (h : TiI w s p bt r W) (v : Bool) : TiI w s p bt v (W.setCell ⟨w.heap.size + 2, 0, none⟩ (.bool v)) :=
  ⟨h.bl.setCell (by show w.heap.size ≤ w.heap.size + 2; omega) _, h.bs.other (by simp) _, h.bb.other (by simp) _, h.br.set 0 _⟩
end
def NoT (s : Sh) (bt : Int) {c : Nat} (l : List (Mb c)) : Prop := ∀ z ∈ l, ¬ bt < s.rest.getD z.1 0
def IsT (s : Sh) (bt : Int) (c : Nat) : Prop := ∃ z : Mb c, bt < s.rest.getD z.1 0
theorem NoT.nil {s : Sh} {bt : Int} {c : Nat} : NoT s bt ([] : List (Mb c)) := fun z hz => by simp at hz
theorem NoT.snoc {s : Sh} {bt v : Int} {c : Nat} {l : List (Mb c)} {z : Mb c} (h : NoT s bt l) (hv : s.rest.getD z.1 0 = v) (hn : ¬ bt < v) : NoT s bt (l ++ [z]) := fun y hy => by
  rcases List.mem_append.1 hy with hy | hy
  · exact h y hy
  · simp only [List.mem_singleton] at hy; subst hy; rw [hv]; exact hn
theorem IsT.mk {s : Sh} {bt v : Int} {c : Nat} (z : Mb c) (hv : s.rest.getD z.1 0 = v) (h : bt < v) : IsT s bt c := ⟨z, by rw [hv]; exact h⟩
theorem tired_f {s : Sh} {a b : Nat} {bt : Int} (ys : List (Mb (s.cast a &&& s.cast b))) (h : ys.map (·.1) = Sh.memb (s.cast a &&& s.cast b)) (hn : NoT s bt ys) : s.tired a b bt = false := by
  unfold Sh.tired
  rw [List.any_eq_false]
  intro i hi hc
  simp only [Bool.and_eq_true, decide_eq_true_eq] at hc
  have hm : i ∈ Sh.memb (s.cast a &&& s.cast b) := mem_memb.2 ⟨by simpa using hi, by rw [Nat.testBit_and, hc.1.1, hc.1.2]; rfl⟩
  rw [← h] at hm
  obtain ⟨z, hz, rfl⟩ := List.mem_map.1 hm
  exact hn z hz hc.2
theorem tired_t {s : Sh} {a b : Nat} {bt : Int} (hc : s.cast a &&& s.cast b < 65536) (h : IsT s bt (s.cast a &&& s.cast b)) : s.tired a b bt = true := by
  obtain ⟨z, h⟩ := h
  unfold Sh.tired
  rw [List.any_eq_true]
  have hb := z.2
  rw [Nat.testBit_and, Bool.and_eq_true] at hb
  exact ⟨z.1, by have := bit_lt (n := 16) hc z.2; simpa using this, by simp only [Bool.and_eq_true, decide_eq_true_eq]; exact ⟨⟨hb.1, hb.2⟩, h⟩⟩
end Go.Pg
namespace Go.Proofs.Ytcnidhcdkbfpcaa
open Go.RowKit Go.Bs Go.Pg Go.Pl Go.Sort
section
attribute [local go_sem] Oper.semAt_some
set_option maxRecDepth 100000 in
set_option maxHeartbeats 8000000 in
theorem tired_any (s : Sh) (p : ShP) (a b : Nat) (bt : Int) (w : World) (h : ShM w s p) (hok : s.Ok) (ha : a < s.acts.length) (hb : b < s.acts.length) :
    Calls Try.prog 100 #[shV s p, .int .i64 a, .int .i64 b, .int .i64 bt] w fun e w' => e = .returned (.bool (s.tired a b bt)) ∧ Below w.heap.size w w' := by
  obtain ⟨bx, o, C1, k1, hA, hbx, -, -, -, a3, -, hC1⟩ := h.at ha
  obtain ⟨bx', o', C2, k2, hA', -, -, -, -, b3, -, hC2⟩ := h.at hb
  rw [hA] at hA'
  obtain ⟨rfl, rfl⟩ : bx = bx' ∧ o = o' := by simpa using hA'
  clear hA'
  have l1 := (hok.act ha).c1
  have l2 := (hok.act hb).c1
  obtain ⟨g1, o1, rfl, hg1, d1⟩ := hC1.at1 (k := 0) (by omega) rfl
  obtain ⟨g2, o2, rfl, hg2, d2⟩ := hC2.at1 (k := 0) (by omega) rfl
  have e1 : (s.act a).casts[0] = s.cast a := by unfold Sh.cast; simp [show 0 < (s.act a).casts.length by omega]
  have e2 : (s.act b).casts[0] = s.cast b := by unfold Sh.cast; simp [show 0 < (s.act b).casts.length by omega]
  rw [e1, Nat.add_zero] at d1
  rw [e2, Nat.add_zero] at d2
  have u1 : s.cast a < 65536 := by rw [← e1]; exact (h.bit ha).2.2 _ (List.getElem_mem _)
  have u2 : s.cast b < 65536 := by rw [← e2]; exact (h.bit hb).2.2 _ (List.getElem_mem _)
  have v1 : s.cast a < 2 ^ s.rest.length := by rw [← e1]; exact (hok.act ha).casts _ (List.getElem_mem _)
  clear e1 e2 hC1 hC2
  have hcc : s.cast a &&& s.cast b < 65536 := Nat.lt_of_le_of_lt Nat.and_le_left u1
  have hn := u16_and_nat (s.cast a) (s.cast b) u1 u2
  have hlz : ∀ z : Mb (s.cast a &&& s.cast b), z.1 < s.rest.length := fun z => bit_lt v1 (by have := z.2; rw [Nat.testBit_and, Bool.and_eq_true] at this; exact this.1)
  have hrest := hok.rest
  have hR0 := h.rest
  have m2 := h.small.2.1
  have Ht := Lib.hid (tired_t (s := s) (a := a) (b := b) (bt := bt) hcc)
  have Hf := Lib.hid (fun ys h1 h2 => tired_f (s := s) (a := a) (b := b) (bt := bt) ys h1 h2)
  clear h hok v1
  generalize s.tired a b bt = res at *
  generalize s.cast a &&& s.cast b = c at *
  have han : (a : Int) < (s.acts.length : Int) := by omega
  have hbn : (b : Int) < (s.acts.length : Int) := by omega
  have la : (0 : Int) < ((s.act a).casts.length : Int) := by omega
  have lb : (0 : Int) < ((s.act b).casts.length : Int) := by omega
  generalize (s.act a).casts.length = n1 at *
  generalize (s.act b).casts.length = n2 at *
  have HA := Lib.hid hA
  clear hA
  unfold shV
  have hb0 : Below w.heap.size w (((w.alloc (.cells (shC s p).toArray 35)).alloc (.cells #[.int .i64 bt] 3)).alloc (.cells #[.bool false] 4)) := (((Below.refl _ _).alloc (Nat.le_refl _) _).alloc (by simp) _).alloc (by simp; omega) _
  have hS := ((Blk.new w 35 (shC s p)).alloc (.cells #[.int .i64 bt] 3)).alloc (.cells #[.bool false] 4)
  have hB := (Blk.new (w.alloc (.cells (shC s p).toArray 35)) 3 [.int .i64 bt]).alloc (.cells #[.bool false] 4)
  have hR := Blk.new ((w.alloc (.cells (shC s p).toArray 35)).alloc (.cells #[.int .i64 bt] 3)) 4 [.bool false]
  have hsz : (((w.alloc (.cells (shC s p).toArray 35)).alloc (.cells #[.int .i64 bt] 3)).alloc (.cells #[.bool false] 4)).heap.size = w.heap.size + 3 := by simp
  simp only [World.size_alloc] at hB hR
  refine (callsIn_wide (n := 20)).1 (callsIn_of_wp_marks Try.func100 rfl trivial ?_)
  simp only [Try.ntmps100, List.size_toArray, List.length_cons, List.length_nil, Nat.reduceAdd, Nat.reduceSub, Array.replicate_succ, Array.replicate_zero, List.push_toArray, List.append_toArray, List.nil_append, List.cons_append]
  refine wpIn_wide.2 ?_
  go_upto_region 1 with fail
  unfold shC at hb0 hS hB hR hsz
  change Below w.heap.size w (((w.alloc (.cells #[.slice p.A s.acts.length p.cA, .slice p.R s.rest.length p.cR, .slice p.I s.ins.length p.cI, .slice p.O s.outs.length p.cO, .int .i64 s.cover, .int .i64 s.dull, .slice p.B s.before.length p.cB] 35)).alloc (.cells #[.int .i64 bt] 3)).alloc (.cells #[.bool false] 4)) at hb0
  change Blk (((w.alloc (.cells #[.slice p.A s.acts.length p.cA, .slice p.R s.rest.length p.cR, .slice p.I s.ins.length p.cI, .slice p.O s.outs.length p.cO, .int .i64 s.cover, .int .i64 s.dull, .slice p.B s.before.length p.cB] 35)).alloc (.cells #[.int .i64 bt] 3)).alloc (.cells #[.bool false] 4)) _ _ _ at hS hB hR
  change (((w.alloc (.cells #[.slice p.A s.acts.length p.cA, .slice p.R s.rest.length p.cR, .slice p.I s.ins.length p.cI, .slice p.O s.outs.length p.cO, .int .i64 s.cover, .int .i64 s.dull, .slice p.B s.before.length p.cB] 35)).alloc (.cells #[.int .i64 bt] 3)).alloc (.cells #[.bool false] 4)).heap.size = _ at hsz
  generalize ((w.alloc (.cells #[.slice p.A s.acts.length p.cA, .slice p.R s.rest.length p.cR, .slice p.I s.ins.length p.cI, .slice p.O s.outs.length p.cO, .int .i64 s.cover, .int .i64 s.dull, .slice p.B s.before.length p.cB] 35)).alloc (.cells #[.int .i64 bt] 3)).alloc (.cells #[.bool false] 4) = W0 at *
  have hI0 : TiI w s p bt false W0 := ⟨hb0, hS, hB, hR⟩
  clear hS hB hR hb0
  refine Dr.wp_region_plan 18 [] (.q [0, 1, 2, 3, 4, 5, 6, 7, 8, 9, 10, 11, 12, 13, 14, 15, 16] (.e1 17 .done)) (by kernel_rfl) (by kernel_rfl) ?_
  have hI := hI0.ext (ext_drew W0)
  have hsz1 : W0.drew.heap.size = w.heap.size + 3 := hsz
  clear hI0 hsz
  generalize W0.drew = W at *
  have q0 : W.cell? ⟨w.heap.size, 0, none⟩ = some (.slice (some ⟨bx, o, none⟩) s.acts.length p.cA) := by rw [← HA.out]; exact hI.bs.cell rfl
  have q0 := Dr.cell0 q0
  have q1 := Dr.cell0 ((hI.bl.cell (p := ⟨bx, o + a * 5 + 3, none⟩) hbx).trans a3)
  have q2 := Dr.cell0 ((hI.bl.cell (p := ⟨bx, o + b * 5 + 3, none⟩) hbx).trans b3)
  have q3 := Dr.cell0 ((hI.bl.cell (p := ⟨g1, o1, none⟩) hg1).trans d1)
  have q4 := Dr.cell0 ((hI.bl.cell (p := ⟨g2, o2, none⟩) hg2).trans d2)
  refine Dr.plan_q (l := [_, _, _, _, _, _, _, _, _, _, _, _, _, _, _, _, _]) rfl (fun K hK => ?_)
  iterate 17 (go_big_quiet_step (fail))
  refine wpQuiet_nil (hK _ ?_); clear hK K
  clear q0 q1 q2 q3 q4
  have CM := Lib.hid (members_any c W)
  have hb1 := ext_alloc W (.cells #[.int .u16 c] 47)
  have hbs : (W.alloc (.cells #[.int .u16 c] 47)).cell? ⟨w.heap.size + 3, 0, none⟩ = some (.int .u16 c) := by rw [← hsz1]; simp
  have hsz2 : (W.alloc (.cells #[.int .u16 c] 47)).heap.size = w.heap.size + 4 := by simp [hsz1]
  have hI1 := hI.ext hb1
  rw [hsz1] at CM
  refine Dr.plan_e rfl (by rfl) (fun K hK => ?_)
  go_wp2_with fail
  refine CM.out.mono ?_; rintro e w1 ⟨rfl, rfl⟩
  refine hK _ _ (.of hb1) ?_; clear hK K
  refine Dr.plan_end rfl ?_
  clear CM hI hb1 hsz1 a3 b3 d1 d2
  generalize W.alloc (.cells #[.int .u16 c] 47) = w1 at *
  go_wp2
  have hBs := hI1.bl.size
  have Hsz2 := Lib.hid hsz2
  clear hsz2
  generalize ha : Act.mk _ _ = a0
  refine wpIn_wide.1 (wpIn_rangeFunc_ownH (F := Fence.wide) (n := 20) rfl (by omega) (gf := 97) (lb := #[.pointer (some ⟨w.heap.size + 3, 0, none⟩)]) (by rw [← ha]; rfl) trivial (enters_of Try.func97 (by kernel_rfl) rfl)
    (mem_stops c hcc Fence.wide 19 trivial rfl (by omega) (w.heap.size + 3) w.heap.size w1 hbs (by have := Hsz2.out; omega))
    (fun h k => h.trans k) (Kept.put (by omega) (by have := Hsz2.out; omega)) (Below.refl _ _) (fun _ => rfl)
    (fun pre W => TiI w s p bt false W ∧ NoT s bt pre ∧ w1.heap.size ≤ W.heap.size)
    (fun cd _ W => cd = .ret ∧ TiI w s p bt true W ∧ IsT s bt c) ?own ?ownx ⟨hI1, NoT.nil, Nat.le_refl _⟩
    (fun x a' W => a' = { tmps := (a0.tmps.setIfInBounds 28 (.int .i64 (x.1 : Int))).setIfInBounds 9 (.int .i64 (x.1 : Int)), defers := [] })
    (fun _ _ _ _ _ _ hs _ _ => hs)
    ?assign ?body ?done ?stop)
  case own =>
    rintro pre X Y row ⟨h1, h2, h3⟩ hg hr
    exact ⟨h1.grown hg (fun r e => ⟨by have := (hr r e).1; omega, (hr r e).2⟩), h2, Nat.le_trans h3 hg.size⟩
  case ownx =>
    rintro cc pre X Y row ⟨h1, h2, h3⟩ hg hr
    exact ⟨h1, h2.grown hg (fun r e => ⟨by have := (hr r e).1; omega, (hr r e).2⟩), h3⟩
  case assign =>
    subst ha
    rintro l pre z W K hi hK
    dsimp only
    gi_wp2
    exact hK _ _ (KeepsFrom.refl _ _) ⟨Below.refl _ _, rfl⟩ hi rfl
  case body =>
    subst ha
    rintro l pre z a' W hl - ⟨hI, hn0, hsz⟩ rfl hlt
    simp only [List.setIfInBounds_toArray, List.set_cons_succ, List.set_cons_zero]
    have hR := Rnd.refl w1.heap.size w.heap.size (w.heap.size + 3) W
    have hz := hlz z
    have Hn0 := Lib.hid hn0
    clear hn0
    gi_upto_region 3 with fail
    have hIe := hI.ext (ext_drew W)
    have hRe := hR.ext (ext_drew W) (by omega) (by have := Hsz2.out; omega)
    have hsze : w1.heap.size ≤ W.drew.heap.size := hsz
    refine Dr.wpIn_region_plan rfl ?q3 7 [] (.q [0, 1, 2, 3, 4, 5, 6] .done) (by kernel_rfl) (by kernel_rfl) (by kernel_rfl) ?_
    case q3 => rintro ⟨_, _, h⟩; exact h
    clear hI hR
    generalize W.drew = W2 at *
    obtain ⟨bi, oi, hpI, -, ci⟩ := (hR0.ext hIe.bl).at1 (k := z.1) hz rfl
    have q0 := Dr.cell0 (hIe.bb.cell (i := 0) rfl)
    have q1 := hIe.bs.cell (i := 1) rfl
    rw [hpI] at q1
    have q1 := Dr.cell0 q1
    have q2 := Dr.cell0 ci
    have hz0 : (0 : Int) ≤ (z.1 : Int) := by omega
    have hzn : (z.1 : Int) < (s.rest.length : Int) := by omega
    have hgv : s.rest.getD z.1 0 = s.rest[z.1]'hz := by simp [hz]
    have Hgv := Lib.hid hgv
    clear hgv hpI ci
    generalize s.rest[z.1]'hz = v at *
    refine Dr.plan_q (l := [_, _, _, _, _, _, _]) rfl (fun K hK => ?_)
    iterate 7 (go_big_quiet_step (fail))
    refine wpQuiet_nil (hK _ ?_); clear hK K
    clear q0 q1 q2
    refine Dr.plan_end rfl ?_
    by_cases hv : bt < v
    · have Hv := Lib.hid hv
      have f0 := hIe.br.free 0
      have r0 : W2.cell? ⟨w.heap.size + 2, 0, none⟩ = _ := hIe.br.cell (i := 0) rfl
      gi_wp2
      have hR2 := hRe.setCell (p := ⟨w.heap.size + 2, 0, none⟩) (by simp) (by simp) (.bool true)
      exact ⟨hR2.kf, rfl, hIe.set true, IsT.mk z Hgv.out Hv.out⟩
    · have Hv := Lib.hid hv
      gi_wp2
      exact ⟨hRe.kf, hRe.kp, hIe, Hn0.out.snoc Hgv.out (by have := Hv.out; omega), Nat.le_trans hsz hRe.sz⟩
  case done =>
    subst ha
    rintro D' ys W hD hys ⟨hI, hn0, hsz⟩ hK
    have hr := Hf.out ys hys hn0
    subst hr
    have f0 := hI.br.free 0
    have r0 : W.cell? ⟨w.heap.size + 2, 0, none⟩ = _ := hI.br.cell (i := 0) rfl
    have hne : D' ≠ w.heap.size + 2 := by have := Hsz2.out; omega
    clear hn0
    go_wp2
    rw [show (W.setCell ⟨w.heap.size + 2, 0, none⟩ (.bool false)) = W from set_self hI.br rfl]
    have hrow : ∀ r, some D' = some r → ∃ o : Obj, W.heap[r]? = some o ∧ o.isCells = false := fun r e => by cases e; exact ⟨_, hK, rfl⟩
    have p1 : (W.putObj D' (.deferred none)).cell? ⟨w.heap.size + 2, 0, none⟩ = _ := (Blk.kept hI.br (grownBy_putObj' W D' (.deferred none)) hrow).cell (i := 0) rfl
    have p4 : Below w.heap.size w (W.putObj D' (.deferred none)) := hI.bl.trans (belowK_b (w := w) (Nat.le_refl _) W D' _ _ (by omega) hK rfl rfl)
    refine ⟨by simp, .inl ⟨_, _, rfl, run_takeDeferred hK, .bool false, by simp [results, Try.results100, go_sem, p1], rfl, p4⟩⟩
  case stop =>
    subst ha
    rintro D' cc pre W hD - ⟨rfl, hI, hz⟩ hK
    have hr := Ht.out hz
    subst hr
    refine wpIn_wide.2 ?_
    go_wp2
    have hrow : ∀ r, some D' = some r → ∃ o : Obj, W.heap[r]? = some o ∧ o.isCells = false := fun r e => by cases e; exact ⟨_, hK, rfl⟩
    have p1 : (W.putObj D' (.deferred none)).cell? ⟨w.heap.size + 2, 0, none⟩ = _ := (Blk.kept hI.br (grownBy_putObj' W D' (.deferred none)) hrow).cell (i := 0) rfl
    have p4 : Below w.heap.size w (W.putObj D' (.deferred none)) := hI.bl.trans (belowK_b (w := w) (Nat.le_refl _) W D' _ _ (by omega) hK rfl rfl)
    refine ⟨by simp, .inl ⟨_, _, rfl, run_takeDeferred hK, .bool true, by simp [results, Try.results100, go_sem, p1], rfl, p4⟩⟩
end
end Go.Proofs.Ytcnidhcdkbfpcaa

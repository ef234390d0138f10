/- Walk: the search (a function that calls itself within a range over a function). (Printed by mk_sead.py.) -/
import Derived.Test.YtbpmfaibcibleaaSeaC
namespace Go.Wg
open Go.RowKit Go.Bs Go.Pl
theorem sx_hit {p : SeP} {x : Sta} (h : x.next < p.l.length) {pre r : List Nat} {i : Nat} (hw : wys p x = pre ++ i :: r) (hp : ∀ k ∈ pre, sx p (nxt p x k) = none) {q : List Nat} (hq : sx p (nxt p x i) = some q) : sx p x = some (i :: q) := by
  rw [sx_step h, hw, List.findSome?_append]
  have : pre.findSome? (fun i => (sx p (nxt p x i)).map (i :: ·)) = none := List.findSome?_eq_none_iff.2 fun k hk => by rw [hp k hk]; rfl
  rw [this, List.findSome?_cons, hq]; rfl
theorem sx_miss {p : SeP} {x : Sta} (h : x.next < p.l.length) (hp : ∀ k ∈ wys p x, sx p (nxt p x k) = none) : sx p x = none := by
  rw [sx_step h]
  exact List.findSome?_eq_none_iff.2 fun k hk => by rw [hp k hk]; rfl
theorem step_row {a b : List Int} {k : Nat} {v : Int} (hk : k < a.length) (hb : b.length = a.length) (h : b.take (k + 1) = (a.set k v).take (k + 1)) : b.take k = a.take k ∧ b.drop k = v :: b.drop (k + 1) := by
  constructor
  · have h2 := congrArg (List.take k) h
    rw [List.take_take, List.take_take, Nat.min_eq_left (by omega), List.take_set, List.set_eq_of_length_le (by rw [List.length_take]; omega)] at h2
    exact h2
  · rw [List.drop_eq_getElem_cons (by omega)]
    congr 1
    have h2 : (b.take (k + 1))[k]? = ((a.set k v).take (k + 1))[k]? := by rw [h]
    rw [List.getElem?_take_of_lt (by omega), List.getElem?_take_of_lt (by omega), List.getElem?_set_self hk, List.getElem?_eq_getElem (by omega)] at h2
    simpa using h2
end Go.Wg
namespace Go.Proofs.Ytbpmfaibcibleaa
open Go.RowKit Go.Bs Go.Wg Go.Pl Go.Sort
theorem MapS.blk {p : SeP} {A B : World} {n : Nat} (h : MapS p A n) (e : B.heap[p.M]? = A.heap[p.M]?) : MapS p B n := by
  obtain ⟨D, ⟨es, ck, h1, h2⟩, h3⟩ := h
  exact ⟨D, ⟨es, ck, e.trans h1, h2⟩, h3⟩
/-- what find returns and leaves -/
def FdR (p : SeP) (x : Sta) (U n : Nat) (W : World) (inl : List Int) (e : Ending) (W' : World) : Prop :=
  e = .returned (.bool (sx p x).isSome) ∧ Dr.Bel [p.I, p.M] W W' ∧ MapS p W' (n + U) ∧ ∃ inl', IArr W' p.I 3 inl' ∧ inl'.length = p.l.length ∧ inl'.take x.next = inl.take x.next ∧ ∀ q, sx p x = some q → inl'.drop x.next = q.map Int.ofNat
def FdC (p : SeP) (x : Sta) (U : Nat) : Prop :=
  ∀ (n : Nat) (W : World) (inl : List Int), SeM W p → MapS p W n → IArr W p.I 3 inl → inl.length = p.l.length → n + U ≤ 1000000000000000000 →
    Calls Try.prog 114 #[.pointer (some ⟨p.S, 0, none⟩), staV x] W (FdR p x U n W inl)
/-- between two rounds -/
structure FdI (p : SeP) (x : Sta) (U n : Nat) (inl : List Int) (w1 : World) (pre : List Nat) (W : World) : Prop where
  bel : Dr.Bel [p.I, p.M] w1 W
  map : MapS p W (n + pre.length * U)
  row : ∃ inl', IArr W p.I 3 inl' ∧ inl'.length = p.l.length ∧ inl'.take x.next = inl.take x.next
  no : ∀ i ∈ pre, sx p (nxt p x i) = none
/-- a way was found -/
structure FdX (p : SeP) (x : Sta) (U n : Nat) (inl : List Int) (w1 : World) (b4 : Nat) (W : World) : Prop where
  bel : Dr.Bel [p.I, p.M, b4] w1 W
  box : Blk W b4 4 [.bool true]
  map : MapS p W (n + (p.nl * U + 1))
  row : ∃ inl' q, IArr W p.I 3 inl' ∧ inl'.length = p.l.length ∧ inl'.take x.next = inl.take x.next ∧ sx p x = some q ∧ inl'.drop x.next = q.map Int.ofNat
theorem below_of_grown {n : Nat} {X Y : World} {row : Option Nat} (hg : X.grownBy Y row) (hr : ∀ r, row = some r → n ≤ r) (hs : n ≤ X.heap.size) : Below n X Y :=
  ⟨hg.os, hg.tape, hg.output, hg.size, fun k hk => hg.block k (by omega) (fun e => by have := hr k e.symm; omega)⟩
section
variable {p : SeP} {x : Sta} {U n b4 : Nat} {inl : List Int} {w1 X Y : World} {pre : List Nat}
theorem bel_below {M : List Nat} (h : Dr.Bel M w1 X) (hb : Below w1.heap.size X Y) : Dr.Bel M w1 Y :=
  ⟨hb.os.trans h.os, hb.tape.trans h.tape, hb.output.trans h.output, Nat.le_trans h.size hb.size, fun k hk hm => (hb.block k hk).trans (h.block k hk hm)⟩
theorem FdI.below (h : FdI p x U n inl w1 pre X) (hb : Below w1.heap.size X Y) (hI : p.I < w1.heap.size) (hM : p.M < w1.heap.size) : FdI p x U n inl w1 pre Y := by
  obtain ⟨inl', r1, r2, r3⟩ := h.row
  exact ⟨bel_below h.bel hb, h.map.blk (hb.block _ hM), ⟨inl', (hb.block _ hI).trans r1, r2, r3⟩, h.no⟩
theorem FdX.below (h : FdX p x U n inl w1 b4 X) (hb : Below w1.heap.size X Y) (hI : p.I < w1.heap.size) (hM : p.M < w1.heap.size) (h4 : b4 < w1.heap.size) : FdX p x U n inl w1 b4 Y := by
  obtain ⟨inl', q, r1, r2, r3, r4, r5⟩ := h.row
  exact ⟨bel_below h.bel hb, (hb.block _ h4).trans h.box, h.map.blk (hb.block _ hM), ⟨inl', q, (hb.block _ hI).trans r1, r2, r3, r4, r5⟩⟩
theorem FdX.res {W : World} (h : FdX p x U n inl w1 b4 X) (hb : Below W.heap.size W w1) (h4 : W.heap.size ≤ b4) : FdR p x (p.nl * U + 1) n W inl (.returned (.bool true)) X := by
  obtain ⟨inl', q, r1, r2, r3, r4, r5⟩ := h.row
  refine ⟨by rw [r4]; rfl, ⟨h.bel.os.trans hb.os, h.bel.tape.trans hb.tape, h.bel.output.trans hb.output, Nat.le_trans hb.size h.bel.size, fun k hk hm => (h.bel.block k (Nat.lt_of_lt_of_le hk hb.size) ?_).trans (hb.block k hk)⟩, h.map, inl', r1, r2, r3, fun q' hq => ?_⟩
  · simp at hm ⊢; omega
  · rw [r4] at hq; cases hq; exact r5
theorem keeps_bel {M : List Nat} {B : Nat} (h : Dr.Bel M X Y) (hM : ∀ k ∈ M, k < B) : KeepsFrom B X Y :=
  ⟨h.size, fun k o hk h0 _ => (h.block k (Array.getElem?_eq_some_iff.1 h0).1 (fun hm => by have := hM k hm; omega)).trans h0⟩
end
section
attribute [local go_sem] Oper.semAt_some
set_option maxRecDepth 100000 in
set_option maxHeartbeats 8000000 in
theorem find_step (p : SeP) (hs : SeS p) (x : Sta) (hx : x.Ok p.l.length) (U : Nat) (ih : x.next < p.l.length → ∀ i ∈ wys p x, FdC p (nxt p x i) U) : FdC p x (p.nl * U + 1) := by
  intro n W inl hM hmap hrow hlen hn
  obtain ⟨kl, hkey⟩ := key_some x (by have := hx.next; have := hs.sl; omega) hx.left hx.needs
  have h1 := ((Blk.new W 139 [.pointer (some ⟨p.S, 0, none⟩)]).alloc (.cells (staC x).toArray 146)).alloc (.cells #[.bool false] 4)
  have h2 := (Blk.new (W.alloc (.cells #[.pointer (some ⟨p.S, 0, none⟩)] 139)) 146 (staC x)).alloc (.cells #[.bool false] 4)
  have h3 := Blk.new ((W.alloc (.cells #[.pointer (some ⟨p.S, 0, none⟩)] 139)).alloc (.cells (staC x).toArray 146)) 4 [.bool false]
  rw [World.size_alloc] at h2
  rw [World.size_alloc, World.size_alloc] at h3
  have hb0 : Below W.heap.size W (((W.alloc (.cells #[.pointer (some ⟨p.S, 0, none⟩)] 139)).alloc (.cells (staC x).toArray 146)).alloc (.cells #[.bool false] 4)) := (((Below.refl _ _).alloc (Nat.le_refl _) _).alloc (by simp) _).alloc (by simp; omega) _
  have hz0 : (((W.alloc (.cells #[.pointer (some ⟨p.S, 0, none⟩)] 139)).alloc (.cells (staC x).toArray 146)).alloc (.cells #[.bool false] 4)).heap.size = W.heap.size + 3 := by simp
  have hM0 := hM.ext hb0
  have hmap0 := hmap.ext hb0
  have hrow0 := hrow.ext hb0
  have hIlt := hrow.lt
  have hMlt := hmap.lt
  have Hlen := Lib.hid hlen
  have Hih := Lib.hid ih
  have Hkey := Lib.hid hkey
  have hsl := hs.sl
  have hxn := hx.next
  clear hM hmap hrow hlen ih
  unfold staV
  refine (callsIn_wide (n := 20)).1 (callsIn_of_wp_marks Try.func114 rfl trivial ?_)
  simp only [Try.ntmps114, List.size_toArray, List.length_cons, List.length_nil, Nat.reduceAdd, Nat.reduceSub, Array.replicate_succ, Array.replicate_zero, List.push_toArray, List.append_toArray, List.nil_append, List.cons_append]
  refine wpIn_wide.2 ?_
  go_upto_region 1 with fail
  change Blk (((W.alloc (.cells #[.pointer (some ⟨p.S, 0, none⟩)] 139)).alloc (.cells #[.int .i64 x.next, .int .i64 (gz x.left 0), .int .i64 (gz x.left 1), .int .i64 (gz x.left 2), .int .i64 (gz x.left 3), .int .i64 (gz x.left 4), .int .i64 (gz x.left 5), .int .i64 (gz x.needs 0), .int .i64 (gz x.needs 1), .int .i64 (gz x.needs 2), .int .i64 (gz x.needs 3), .int .i64 (gz x.needs 4), .int .i64 (gz x.needs 5)] 146)).alloc (.cells #[.bool false] 4)) _ _ _ at h1 h2 h3
  change Below W.heap.size W (((W.alloc (.cells #[.pointer (some ⟨p.S, 0, none⟩)] 139)).alloc (.cells #[.int .i64 x.next, .int .i64 (gz x.left 0), .int .i64 (gz x.left 1), .int .i64 (gz x.left 2), .int .i64 (gz x.left 3), .int .i64 (gz x.left 4), .int .i64 (gz x.left 5), .int .i64 (gz x.needs 0), .int .i64 (gz x.needs 1), .int .i64 (gz x.needs 2), .int .i64 (gz x.needs 3), .int .i64 (gz x.needs 4), .int .i64 (gz x.needs 5)] 146)).alloc (.cells #[.bool false] 4)) at hb0
  change SeM (((W.alloc (.cells #[.pointer (some ⟨p.S, 0, none⟩)] 139)).alloc (.cells #[.int .i64 x.next, .int .i64 (gz x.left 0), .int .i64 (gz x.left 1), .int .i64 (gz x.left 2), .int .i64 (gz x.left 3), .int .i64 (gz x.left 4), .int .i64 (gz x.left 5), .int .i64 (gz x.needs 0), .int .i64 (gz x.needs 1), .int .i64 (gz x.needs 2), .int .i64 (gz x.needs 3), .int .i64 (gz x.needs 4), .int .i64 (gz x.needs 5)] 146)).alloc (.cells #[.bool false] 4)) p at hM0
  change MapS p (((W.alloc (.cells #[.pointer (some ⟨p.S, 0, none⟩)] 139)).alloc (.cells #[.int .i64 x.next, .int .i64 (gz x.left 0), .int .i64 (gz x.left 1), .int .i64 (gz x.left 2), .int .i64 (gz x.left 3), .int .i64 (gz x.left 4), .int .i64 (gz x.left 5), .int .i64 (gz x.needs 0), .int .i64 (gz x.needs 1), .int .i64 (gz x.needs 2), .int .i64 (gz x.needs 3), .int .i64 (gz x.needs 4), .int .i64 (gz x.needs 5)] 146)).alloc (.cells #[.bool false] 4)) n at hmap0
  change IArr (((W.alloc (.cells #[.pointer (some ⟨p.S, 0, none⟩)] 139)).alloc (.cells #[.int .i64 x.next, .int .i64 (gz x.left 0), .int .i64 (gz x.left 1), .int .i64 (gz x.left 2), .int .i64 (gz x.left 3), .int .i64 (gz x.left 4), .int .i64 (gz x.left 5), .int .i64 (gz x.needs 0), .int .i64 (gz x.needs 1), .int .i64 (gz x.needs 2), .int .i64 (gz x.needs 3), .int .i64 (gz x.needs 4), .int .i64 (gz x.needs 5)] 146)).alloc (.cells #[.bool false] 4)) _ _ _ at hrow0
  change (((W.alloc (.cells #[.pointer (some ⟨p.S, 0, none⟩)] 139)).alloc (.cells #[.int .i64 x.next, .int .i64 (gz x.left 0), .int .i64 (gz x.left 1), .int .i64 (gz x.left 2), .int .i64 (gz x.left 3), .int .i64 (gz x.left 4), .int .i64 (gz x.left 5), .int .i64 (gz x.needs 0), .int .i64 (gz x.needs 1), .int .i64 (gz x.needs 2), .int .i64 (gz x.needs 3), .int .i64 (gz x.needs 4), .int .i64 (gz x.needs 5)] 146)).alloc (.cells #[.bool false] 4)).heap.size = _ at hz0
  generalize ((W.alloc (.cells #[.pointer (some ⟨p.S, 0, none⟩)] 139)).alloc (.cells #[.int .i64 x.next, .int .i64 (gz x.left 0), .int .i64 (gz x.left 1), .int .i64 (gz x.left 2), .int .i64 (gz x.left 3), .int .i64 (gz x.left 4), .int .i64 (gz x.left 5), .int .i64 (gz x.needs 0), .int .i64 (gz x.needs 1), .int .i64 (gz x.needs 2), .int .i64 (gz x.needs 3), .int .i64 (gz x.needs 4), .int .i64 (gz x.needs 5)] 146)).alloc (.cells #[.bool false] 4) = W0 at *
  refine Dr.wp_region_plan 8 [] (.q [0, 1, 2, 3, 4, 5, 6, 7] .done) (by kernel_rfl) (by kernel_rfl) ?_
  have g1 := h1.drew
  have g2 := h2.drew
  have g3 := h3.drew
  have gM := hM0.ext (ext_drew W0)
  have gm := hmap0.ext (ext_drew W0)
  have gr : IArr W0.drew p.I 3 inl := hrow0.ext (ext_drew W0)
  have gb := hb0.drew
  have gz0 : W0.drew.heap.size = W.heap.size + 3 := hz0
  clear h1 h2 h3 hM0 hmap0 hrow0 hb0 hz0
  generalize W0.drew = W1 at *
  have Gz0 := Lib.hid gz0
  clear gz0
  have hsb := gM.sb
  unfold seC at hsb
  have q0 := Dr.cell0 (g1.cell (i := 0) rfl)
  have q1 := Dr.cell0 (g2.cell (i := 0) rfl)
  have q8 := Dr.cell0 (hsb.cell (i := 8) rfl)
  refine Dr.plan_q (l := [_, _, _, _, _, _, _, _]) rfl (fun K hK => ?_)
  iterate 8 (go_big_quiet_step (fail))
  refine wpQuiet_nil (hK _ ?_); clear hK K
  clear q0 q1 q8 hsb
  refine Dr.plan_end rfl ?_
  by_cases hend : x.next = p.l.length
  case pos =>
    have he : ((x.next : Int) == (p.l.length : Int)) = true := by rw [beq_iff_eq]; omega
    have Hsx := Lib.hid (sx_end hend)
    have c4 : W1.cell? ⟨W.heap.size + 1 + 1, 0, none⟩ = _ := g3.cell (i := 0) rfl
    have f4 := g3.free 0
    have g4 := g3.set 0 (.bool true)
    simp only [List.set_cons_zero] at g4
    have c5 := g4.cell (i := 0) rfl
    have hwlt := g3.lt
    have gb2 : Below W.heap.size W _ := gb.setCell (p := ⟨W.heap.size + 1 + 1, 0, none⟩) (by simp; omega) (.bool true)
    have gm2 := gm.set (q := ⟨W.heap.size + 1 + 1, 0, none⟩) (by simp; omega) (.bool true)
    have gr2 : IArr _ p.I 3 inl := gr.other (p := ⟨W.heap.size + 1 + 1, 0, none⟩) (by simp; omega) (.bool true)
    have Hnx := Lib.hid hend
    clear hend g1 g2
    have Hend := Lib.hid (show x.next = p.l.length by have := Hnx.out; omega)
    go_wp2
    generalize W1.setCell ⟨W.heap.size + 1 + 1, 0, none⟩ (.bool true) = W2 at *
    refine ⟨.bool true, by simp [results, Try.results114, go_sem, c5], ?_⟩
    refine ⟨by rw [Hsx.out]; rfl, .of gb2, gm2.mono (by omega), inl, gr2, Hlen.out, rfl, fun q hq => ?_⟩
    rw [Hsx.out] at hq
    cases hq
    rw [List.drop_of_length_le (by have := Hend.out; have := Hlen.out; omega)]; rfl
  case neg =>
  have hlt : x.next < p.l.length := by omega
  have he : ((x.next : Int) == (p.l.length : Int)) = false := by rw [beq_eq_false_iff_ne]; omega
  have Hlt := Lib.hid hlt
  clear hend
  go_upto_region 3 with fail
  refine Dr.wp_region_plan 5 [] (.q [0, 1, 2, 3, 4] .done) (by kernel_rfl) (by kernel_rfl) ?_
  have h1 := g1.drew
  have h2 := g2.drew
  have h3 := g3.drew
  have hM0 := gM.ext (ext_drew W1)
  have hmap0 := gm.ext (ext_drew W1)
  have hrow0 : IArr W1.drew p.I 3 inl := gr.ext (ext_drew W1)
  have hb0 := gb.drew
  have Hz0 : Hid (W1.drew.heap.size = W.heap.size + 3) := Lib.hid Gz0.out
  clear g1 g2 g3 gM gm gr gb Gz0
  generalize W1.drew = W2 at *
  have hsb := hM0.sb
  unfold seC at hsb
  have hk2 := h2
  unfold staC at hk2
  have q0 := Dr.cell0 (h1.cell (i := 0) rfl)
  have q8 := Dr.cell0 (hsb.cell (i := 11) rfl)
  have r0 := Dr.cell0 (hk2.cell (i := 0) rfl)
  have r1 := Dr.cell0 (hk2.cell (i := 1) rfl)
  have r2 := Dr.cell0 (hk2.cell (i := 2) rfl)
  have r3 := Dr.cell0 (hk2.cell (i := 3) rfl)
  have r4 := Dr.cell0 (hk2.cell (i := 4) rfl)
  have r5 := Dr.cell0 (hk2.cell (i := 5) rfl)
  have r6 := Dr.cell0 (hk2.cell (i := 6) rfl)
  have r7 := Dr.cell0 (hk2.cell (i := 7) rfl)
  have r8 := Dr.cell0 (hk2.cell (i := 8) rfl)
  have r9 := Dr.cell0 (hk2.cell (i := 9) rfl)
  have r10 := Dr.cell0 (hk2.cell (i := 10) rfl)
  have r11 := Dr.cell0 (hk2.cell (i := 11) rfl)
  have r12 := Dr.cell0 (hk2.cell (i := 12) rfl)
  refine Dr.plan_q (l := [_, _, _, _, _]) rfl (fun K hK => ?_)
  iterate 5 (go_big_quiet_step (fail))
  refine wpQuiet_nil (hK _ ?_); clear hK K
  clear r0 r1 r2 r3 r4 r5 r6 r7 r8 r9 r10 r11 r12
  clear q0 q8 hsb hk2
  refine Dr.plan_done (tl := [_]) rfl ?_
  obtain ⟨D, hown, hgood⟩ := hmap0
  have hgx := hgood x kl ⟨hx.l6, hx.n6⟩ hkey
  have Hgx := Lib.hid hgx
  have Hgood := Lib.hid hgood
  clear hgx hgood
  unfold staV at hkey
  go_upto_if 20 with (at_lookup; refine wpList_lookup_own_bool _ rfl _ _ 140 rfl 146 4 law146 Try.underlying140 Try.underlying4 (zero4 _) p.M n D rfl hown _ kl rfl hkey ?_; intro c hat)
  cases c
  case true =>
    have Hno := Lib.hid (Hgx.out hat)
    have c4 : W2.cell? ⟨W.heap.size + 1 + 1, 0, none⟩ = _ := h3.cell (i := 0) rfl
    have f4 := h3.free 0
    have g4 := h3.set 0 (.bool false)
    simp only [List.set_cons_zero] at g4
    have c5 := g4.cell (i := 0) rfl
    have hwlt := h3.lt
    have hmap0 : MapS p W2 n := ⟨D, hown, Hgood.out⟩
    have gb2 : Below W.heap.size W _ := hb0.setCell (p := ⟨W.heap.size + 1 + 1, 0, none⟩) (by simp; omega) (.bool false)
    have gm2 := hmap0.set (q := ⟨W.heap.size + 1 + 1, 0, none⟩) (by simp; omega) (.bool false)
    have gr2 : IArr _ p.I 3 inl := hrow0.other (p := ⟨W.heap.size + 1 + 1, 0, none⟩) (by simp; omega) (.bool false)
    clear hat h1 h2 hown hmap0
    go_wp2
    generalize W2.setCell ⟨W.heap.size + 1 + 1, 0, none⟩ (.bool false) = W3 at *
    refine ⟨.bool false, by simp [results, Try.results114, go_sem, c5], ?_⟩
    refine ⟨by rw [Hno.out]; rfl, .of gb2, gm2.mono (by omega), inl, gr2, Hlen.out, rfl, fun q hq => ?_⟩
    rw [Hno.out] at hq
    cases hq
  case false =>
  clear hat
  have hmap0 : MapS p W2 n := ⟨D, hown, Hgood.out⟩
  clear hown Hgx Hgood
  have hk2 := h2
  unfold staC at hk2
  have q0 : W2.cell? ⟨W.heap.size, 0, none⟩ = _ := h1.cell (i := 0) rfl
  have r0 : W2.cell? ⟨W.heap.size + 1, 0, none⟩ = _ := hk2.cell (i := 0) rfl
  have r1 : W2.cell? ⟨W.heap.size + 1, 1, none⟩ = _ := hk2.cell (i := 1) rfl
  have r2 : W2.cell? ⟨W.heap.size + 1, 2, none⟩ = _ := hk2.cell (i := 2) rfl
  have r3 : W2.cell? ⟨W.heap.size + 1, 3, none⟩ = _ := hk2.cell (i := 3) rfl
  have r4 : W2.cell? ⟨W.heap.size + 1, 4, none⟩ = _ := hk2.cell (i := 4) rfl
  have r5 : W2.cell? ⟨W.heap.size + 1, 5, none⟩ = _ := hk2.cell (i := 5) rfl
  have r6 : W2.cell? ⟨W.heap.size + 1, 6, none⟩ = _ := hk2.cell (i := 6) rfl
  have r7 : W2.cell? ⟨W.heap.size + 1, 7, none⟩ = _ := hk2.cell (i := 7) rfl
  have r8 : W2.cell? ⟨W.heap.size + 1, 8, none⟩ = _ := hk2.cell (i := 8) rfl
  have r9 : W2.cell? ⟨W.heap.size + 1, 9, none⟩ = _ := hk2.cell (i := 9) rfl
  have r10 : W2.cell? ⟨W.heap.size + 1, 10, none⟩ = _ := hk2.cell (i := 10) rfl
  have r11 : W2.cell? ⟨W.heap.size + 1, 11, none⟩ = _ := hk2.cell (i := 11) rfl
  have r12 : W2.cell? ⟨W.heap.size + 1, 12, none⟩ = _ := hk2.cell (i := 12) rfl
  have hwlt := h3.lt
  have CW := Lib.hid (ways_any p.S x W2)
  unfold staV at CW
  clear hk2
  go_wp2_with fail
  refine CW.out.mono ?_; rintro e w1 ⟨rfl, k1, k2, hb1, hz1⟩
  have Hz1 := Lib.hid hz1
  clear r0 r1 r2 r3 r4 r5 r6 r7 r8 r9 r10 r11 r12
  clear q0 hwlt CW hz1
  have hM1 := hM0.ext hb1
  have hmap1 := hmap0.ext hb1
  have hrow1 : IArr w1 p.I 3 inl := hrow0.ext hb1
  have g1 := h1.ext hb1
  have g2 := h2.ext hb1
  have g3 := h3.ext hb1
  have hb01 := hb0.trans (hb1.mono hb0.size)
  clear hM0 hmap0 hrow0 h1 h2 h3
  go_wp2
  generalize ha : Act.mk _ _ = a0
  have hI1 : p.I < w1.heap.size := by have := hb1.size; have := hb0.size; omega
  have hM11 : p.M < w1.heap.size := by have := hb1.size; have := hb0.size; omega
  have h41 : W.heap.size + 1 + 1 < w1.heap.size := by have := Hz1.out; have := Hz0.out; omega
  have n1 : W2.heap.size ∉ [p.I, p.M] := by have := hb0.size; simp; omega
  have n2 : W2.heap.size + 1 ∉ [p.I, p.M] := by have := hb0.size; simp; omega
  refine wpIn_wide.1 (range_stop (F := Fence.wide) (n := 20) rfl (by omega) (gf := 144) (lb := #[.pointer (some ⟨W2.heap.size, 0, none⟩), .pointer (some ⟨W2.heap.size + 1, 0, none⟩)]) (by rw [← ha]; rfl) trivial (enters_of Try.func144 (by kernel_rfl) rfl)
    (ways_next p hs x hx Hlt.out W2.heap.size (W2.heap.size + 1) w1 hM1 k1 k2 n1 n2 ⟨hI1, hM11⟩ 19 (by omega))
    (fun h k => h.trans k) (fun V l o o' _ h1 h2 _ => KpC.put V l o o' h1 h2) (fun _ => rfl)
    (FdI p x U n inl w1) (fun _ V => FdX p x U n inl w1 (W.heap.size + 1 + 1) V) ?own ?ownB ?ownX ⟨Dr.Bel.refl _ _, hmap1.mono (by simp), ⟨inl, hrow1, Hlen.out, rfl⟩, fun i hi => by simp at hi⟩
    (fun i a' V => ∃ g, a' = { tmps := (((a0.tmps.setIfInBounds 24 (.int .i64 (i : Int))).setIfInBounds 25 (staV (nxt p x i))).setIfInBounds 5 (.int .i64 (i : Int))).setIfInBounds 6 (.pointer (some ⟨g, 0, none⟩)), defers := [] } ∧ Blk V g 146 (staC (nxt p x i)) ∧ w1.heap.size ≤ g)
    ?ownA ?assign ?body ?done ?stop)
  case own =>
    rintro pre X Y row h hg hr
    exact h.below (below_of_grown hg (fun r e => (hr r e).1) h.bel.size) hI1 hM11
  case ownB =>
    rintro pre X Y hb h
    exact h.below hb hI1 hM11
  case ownX =>
    rintro pre X Y row h hg hr
    exact h.below (below_of_grown hg (fun r e => (hr r e).1) h.bel.size) hI1 hM11 h41
  case ownA =>
    rintro i a' u X Y row ⟨g, h1, h2, h3⟩ hg hr
    refine ⟨g, h1, (hg.block g h2.lt (fun e => ?_)).trans h2, h3⟩
    obtain ⟨o, ho, hc⟩ := (hr g e.symm).2
    rw [show X.heap[g]? = _ from h2] at ho
    cases ho; cases hc
  case assign =>
    subst ha
    rintro l pre i X K hi hK
    generalize hy : nxt p x i = y at *
    have hn1 := Blk.new X 146 (staC y)
    have hx1 := ext_alloc X (.cells (staC y).toArray 146)
    unfold staV at hK ⊢
    unfold staC at hx1 hn1 hK
    dsimp only
    gi_wp2
    exact hK _ _ ⟨by simp, fun k o _ h0 _ => (hx1.block k (Array.getElem?_eq_some_iff.1 h0).1).trans h0⟩ (KpC.of (.of hx1)) (hi.below (hx1.mono hi.bel.size) hI1 hM11) ⟨X.heap.size, rfl, hn1, hi.bel.size⟩
  case body =>
    subst ha
    rintro l pre i a' X hl hI ⟨g, rfl, hg, hgs⟩ ⟨r, hr⟩
    simp only [List.setIfInBounds_toArray, List.set_cons_succ, List.set_cons_zero]
    have him : i ∈ wys p x := by rw [hr]; simp
    obtain ⟨inl', r1, r2, r3⟩ := hI.row
    have C0 := Lib.hid (Hih.out Hlt.out i him)
    have Hno := Lib.hid hI.no
    have Hr := Lib.hid hr
    have Hsx := Lib.hid (fun q (h : sx p (nxt p x i) = some q) => sx_hit Hlt.out Hr.out Hno.out h)
    have hplen : pre.length + 1 ≤ p.nl := by
      have h1 := wys_len p x
      rw [hr, List.length_append, List.length_cons] at h1
      omega
    have hmul : (pre.length + 1) * U ≤ p.nl * U := Nat.mul_le_mul_right _ hplen
    have hmul2 : (pre.length + 1) * U = pre.length * U + U := by rw [Nat.add_mul, Nat.one_mul]
    have Hi := Lib.hid (show Int.ofNat i = (i : Int) from rfl)
    have x1 := hI.bel.blk g1 (by simp; omega)
    have x2 := hI.bel.blk g2 (by simp; omega)
    have x4 := hI.bel.blk g3 (by simp; omega)
    have xM := hM1.bel hI.bel
    have xm := hI.map
    have hXs := hI.bel.size
    have HIb := Lib.hid hI.bel
    have hyn : (nxt p x i).next = x.next + 1 := rfl
    have Hyn := Lib.hid hyn
    have Hsy := Lib.hid (show sx p (nxt p x i) = none → ∀ k ∈ pre ++ [i], sx p (nxt p x k) = none from fun h k hk => by
      rcases List.mem_append.1 hk with h1 | h1
      · exact Hno.out k h1
      · simp only [List.mem_singleton] at h1; rw [h1]; exact h)
    clear hI hyn hr him
    generalize nxt p x i = y at *
    gi_upto_region 8 with fail
    have xr : IArr X.drew p.I 3 inl' := IArr.ext r1 (ext_drew X)
    have y1 := x1.drew
    have y2 := x2.drew
    have y4 := x4.drew
    have yM := xM.ext (ext_drew X)
    have ym := xm.ext (ext_drew X)
    have yg := hg.drew
    have yb : Dr.Bel [p.I, p.M] X X.drew := .of (ext_drew X)
    refine Dr.wpIn_region_plan rfl ?q8 8 [] (.q [0, 1, 2, 3, 4, 5, 6, 7] .done) (by kernel_rfl) (by kernel_rfl) (by kernel_rfl) ?_
    case q8 => rintro ⟨_, _, h⟩; exact h
    clear x1 x2 x4 xM xm hg r1
    generalize X.drew = X2 at *
    have ysb := yM.sb
    unfold seC at ysb
    have q0 := Dr.cell0 (y1.cell (i := 0) rfl)
    have q1 := Dr.cell0 (y2.cell (i := 0) rfl)
    have q10 := Dr.cell0 (ysb.cell (i := 10) rfl)
    have hlt := Hlt.out
    have hlt' : (x.next : Int) < (p.l.length : Int) := by omega
    refine Dr.plan_q (l := [_, _, _, _, _, _, _, _]) rfl (fun K hK => ?_)
    iterate 8 (go_big_quiet_step (fail))
    refine wpQuiet_nil (hK _ ?_); clear hK K
    clear q0 q1 q10 ysb
    obtain ⟨v0, hv0⟩ : ∃ v, inl'[x.next]? = some v := ⟨_, List.getElem?_eq_getElem (by omega)⟩
    have z0 := xr.cell hv0
    have z1 := xr.free x.next
    have hIl := xr.lt
    refine Dr.plan_done (tl := [_]) rfl ?_
    go_wp2
    have xr3 := xr.set x.next (i : Int)
    have hne := yM.ne
    have y13 := y1.other (p := ⟨p.I, x.next, none⟩) (by simp; omega) (.int .i64 (i : Int))
    have y43 := y4.other (p := ⟨p.I, x.next, none⟩) (by simp; omega) (.int .i64 (i : Int))
    have yg3 := yg.other (p := ⟨p.I, x.next, none⟩) (by simp; omega) (.int .i64 (i : Int))
    have ym3 := ym.set (q := ⟨p.I, x.next, none⟩) (by simp; omega) (.int .i64 (i : Int))
    have yb3 := yb.put (p := ⟨p.I, x.next, none⟩) (by simp) (.int .i64 (i : Int))
    have yM3 := yM.bel (Dr.Bel.store (M := [p.I, p.M]) (p := ⟨p.I, x.next, none⟩) (by simp) (.int .i64 (i : Int)))
    clear z0 z1 hv0 xr y1 y2 y4 yg ym yb yM
    generalize X2.setCell ⟨p.I, x.next, none⟩ (.int .i64 (i : Int)) = X3 at *
    have C := Lib.hid (C0.out (n + pre.length * U) X3 (inl'.set x.next (i : Int)) yM3 ym3 xr3 (by rw [List.length_set]; exact r2) (by omega))
    have R2 := Lib.hid r2
    have R3 := Lib.hid r3
    have s0 : X3.cell? ⟨W.heap.size, 0, none⟩ = _ := y13.cell (i := 0) rfl
    have yk := yg3
    unfold staC at yk
    unfold staV at C
    have u0 : X3.cell? ⟨g, 0, none⟩ = _ := yk.cell (i := 0) rfl
    have u1 : X3.cell? ⟨g, 1, none⟩ = _ := yk.cell (i := 1) rfl
    have u2 : X3.cell? ⟨g, 2, none⟩ = _ := yk.cell (i := 2) rfl
    have u3 : X3.cell? ⟨g, 3, none⟩ = _ := yk.cell (i := 3) rfl
    have u4 : X3.cell? ⟨g, 4, none⟩ = _ := yk.cell (i := 4) rfl
    have u5 : X3.cell? ⟨g, 5, none⟩ = _ := yk.cell (i := 5) rfl
    have u6 : X3.cell? ⟨g, 6, none⟩ = _ := yk.cell (i := 6) rfl
    have u7 : X3.cell? ⟨g, 7, none⟩ = _ := yk.cell (i := 7) rfl
    have u8 : X3.cell? ⟨g, 8, none⟩ = _ := yk.cell (i := 8) rfl
    have u9 : X3.cell? ⟨g, 9, none⟩ = _ := yk.cell (i := 9) rfl
    have u10 : X3.cell? ⟨g, 10, none⟩ = _ := yk.cell (i := 10) rfl
    have u11 : X3.cell? ⟨g, 11, none⟩ = _ := yk.cell (i := 11) rfl
    have u12 : X3.cell? ⟨g, 12, none⟩ = _ := yk.cell (i := 12) rfl
    have hglt := yk.lt
    clear yk xr3 ym3 r2 r3 C0
    gi_wp2_with fail
    refine ⟨trivial, (Dr.callsF (F := Fence.wide.inRound l) (m := 17) rfl C.out).mono ?_⟩
    rintro e X4 h
    obtain ⟨rfl, hb4, hm4, inl2, t1, t2, t3, t4⟩ := h
    have hb5 := yb3.trans hb4
    have y44 := hb4.blk y43 (by simp; omega)
    rw [Hyn.out] at t3 t4
    have T3 := Lib.hid t3
    have T4 := Lib.hid t4
    have T2 := Lib.hid t2
    have Hrow := Lib.hid (step_row (a := inl') (b := inl2) (k := x.next) (v := (i : Int)) (by rw [R2.out]; exact hlt) (by rw [T2.out, R2.out]) T3.out)
    clear t2 t3 t4 s0 hglt yg3 y13 yb3 hb4 y43
    clear u0 u1 u2 u3 u4 u5 u6 u7 u8 u9 u10 u11 u12
    cases hsy : sx p y with
    | none =>
      have Hn := Lib.hid (Hsy.out hsy)
      have hm5 : MapS p X4 (n + (pre ++ [i]).length * U) := by rw [List.length_append, List.length_singleton, hmul2]; exact hm4.mono (by omega)
      clear hsy
      gi_wp2
      show KeepsFrom w1.heap.size X X4 ∧ KpC [p.I, p.M] X X4 ∧ FdI p x U n inl w1 (pre ++ [i]) X4
      exact ⟨keeps_bel hb5 (by simp; omega), KpC.of hb5, ⟨HIb.out.trans hb5, hm5, ⟨inl2, t1, T2.out, Hrow.out.1.trans R3.out⟩, Hn.out⟩⟩
    | some qq =>
      have Hs := Lib.hid (Hsx.out qq hsy)
      have Hd := Lib.hid (T4.out qq hsy)
      have c4 : X4.cell? ⟨W.heap.size + 1 + 1, 0, none⟩ = _ := y44.cell (i := 0) rfl
      have f4 := y44.free 0
      have g4 := y44.set 0 (.bool true)
      simp only [List.set_cons_zero] at g4
      have hwlt := y44.lt
      have hm5 := (hm4.mono (show _ ≤ n + (p.nl * U + 1) by omega)).set (q := ⟨W.heap.size + 1 + 1, 0, none⟩) (by simp; omega) (.bool true)
      have t15 : IArr _ p.I 3 inl2 := t1.other (p := ⟨W.heap.size + 1 + 1, 0, none⟩) (by simp; omega) (.bool true)
      have hb6 : Dr.Bel [p.I, p.M, W.heap.size + 1 + 1] w1 _ := ((HIb.out.trans hb5).wide (N := [p.I, p.M, W.heap.size + 1 + 1]) (by simp)).put (p := ⟨W.heap.size + 1 + 1, 0, none⟩) (by simp) (.bool true)
      have hk6 : Dr.Bel [p.I, p.M, W.heap.size + 1 + 1] X _ := (hb5.wide (N := [p.I, p.M, W.heap.size + 1 + 1]) (by simp)).put (p := ⟨W.heap.size + 1 + 1, 0, none⟩) (by simp) (.bool true)
      clear hsy
      gi_wp2
      generalize X4.setCell ⟨W.heap.size + 1 + 1, 0, none⟩ (.bool true) = X5 at *
      show KeepsFrom w1.heap.size X X5 ∧ FdX p x U n inl w1 (W.heap.size + 1 + 1) X5
      refine ⟨keeps_bel hk6 (by simp; omega), hb6, g4, hm5, inl2, i :: qq, t15, T2.out, Hrow.out.1.trans R3.out, Hs.out, ?_⟩
      rw [Hrow.out.2, Hd.out]; rfl
  case done =>
    subst ha
    rintro D1 ys X hD hys hI hK
    have Hno := Lib.hid (sx_miss Hlt.out (fun k hk => hI.no k (by rw [hys]; exact hk)))
    have hyl : ys.length ≤ p.nl := by rw [hys]; exact wys_len p x
    have hmul : ys.length * U ≤ p.nl * U := Nat.mul_le_mul_right _ hyl
    obtain ⟨inl', r1, r2, r3⟩ := hI.row
    have x1 := hI.bel.blk g1 (by simp; omega)
    have x2 := hI.bel.blk g2 (by simp; omega)
    have x4 := hI.bel.blk g3 (by simp; omega)
    have xM := hM1.bel hI.bel
    have xm := hI.map
    have HIb := Lib.hid hI.bel
    clear hI hys
    go_upto_region 11 with fail
    have xr : IArr X.drew p.I 3 inl' := IArr.ext r1 (ext_drew X)
    have y1 := x1.drew
    have y2 := x2.drew
    have y4 := x4.drew
    have yM := xM.ext (ext_drew X)
    have ym := xm.ext (ext_drew X)
    have yb : Dr.Bel [p.I, p.M] w1 X.drew := HIb.out.trans (.of (ext_drew X))
    have hK2 : X.drew.heap[D1]? = some (.deferred (some [])) := hK
    refine Dr.wp_region_plan 5 [] (.q [0, 1, 2, 3, 4] .done) (by kernel_rfl) (by kernel_rfl) ?_
    clear x1 x2 x4 xM xm r1 hK HIb
    generalize X.drew = X2 at *
    have ysb := yM.sb
    unfold seC at ysb
    have yk := y2
    unfold staC at yk
    have q0 := Dr.cell0 (y1.cell (i := 0) rfl)
    have q11 := Dr.cell0 (ysb.cell (i := 11) rfl)
    have u0 := Dr.cell0 (yk.cell (i := 0) rfl)
    have u1 := Dr.cell0 (yk.cell (i := 1) rfl)
    have u2 := Dr.cell0 (yk.cell (i := 2) rfl)
    have u3 := Dr.cell0 (yk.cell (i := 3) rfl)
    have u4 := Dr.cell0 (yk.cell (i := 4) rfl)
    have u5 := Dr.cell0 (yk.cell (i := 5) rfl)
    have u6 := Dr.cell0 (yk.cell (i := 6) rfl)
    have u7 := Dr.cell0 (yk.cell (i := 7) rfl)
    have u8 := Dr.cell0 (yk.cell (i := 8) rfl)
    have u9 := Dr.cell0 (yk.cell (i := 9) rfl)
    have u10 := Dr.cell0 (yk.cell (i := 10) rfl)
    have u11 := Dr.cell0 (yk.cell (i := 11) rfl)
    have u12 := Dr.cell0 (yk.cell (i := 12) rfl)
    refine Dr.plan_q (l := [_, _, _, _, _]) rfl (fun K hK => ?_)
    iterate 5 (go_big_quiet_step (fail))
    refine wpQuiet_nil (hK _ ?_); clear hK K
    clear u0 u1 u2 u3 u4 u5 u6 u7 u8 u9 u10 u11 u12
    clear q0 q11 ysb yk
    refine Dr.plan_done (tl := [_]) rfl ?_
    obtain ⟨D, hown, hgood⟩ := ym
    have Hgood := Lib.hid (good_put ⟨hx.l6, hx.n6⟩ Hkey.out Hno.out hgood)
    have hnN : n + ys.length * U < maxLen := by unfold maxLen; omega
    have HnN := Lib.hid (show n + ys.length * U + 1 ≤ n + (p.nl * U + 1) by omega)
    clear hgood hn hmul hyl
    have hMX := hown.lt
    go_upto_region 12 with (at_mapUpdate; refine wpList_mapUpdate_own _ rfl _ _ _ 140 rfl 146 4 law146 Try.underlying140 _ p.M (n + ys.length * U) D rfl hown hnN _ _ kl rfl rfl hkey _ [] (plainElem_bool Try.underlying4 true) ?_; intro X3 hown3 hgrow3)
    have hne := yM.ne
    have hb3 : Dr.Bel [p.I, p.M] X2 X3 := ⟨hgrow3.os, hgrow3.tape, hgrow3.output, hgrow3.size, fun k hk hm => hgrow3.block k hk (fun e => hm (by cases e; simp))⟩
    have y43 := hb3.blk y4 (by simp; omega)
    have xr3 : IArr X3 p.I 3 inl' := (hgrow3.block p.I xr.lt (by simp; omega)).trans xr
    have hK3 : X3.heap[D1]? = some (.deferred (some [])) := (hgrow3.block D1 (Array.getElem?_eq_some_iff.1 hK2).1 (by simp; omega)).trans hK2
    have ym3 : MapS p X3 (n + (p.nl * U + 1)) := MapS.mono ⟨_, hown3, Hgood.out⟩ HnN.out
    have yb3 := yb.trans hb3
    clear hown hown3 hgrow3 y4 xr hK2 yb hb3 y1 y2 hMX
    have c4 : X3.cell? ⟨W.heap.size + 1 + 1, 0, none⟩ = _ := y43.cell (i := 0) rfl
    have f4 := y43.free 0
    have g4 := y43.set 0 (.bool false)
    simp only [List.set_cons_zero] at g4
    have hwlt := y43.lt
    have ym4 := ym3.set (q := ⟨W.heap.size + 1 + 1, 0, none⟩) (by simp; omega) (.bool false)
    have xr4 : IArr _ p.I 3 inl' := xr3.other (p := ⟨W.heap.size + 1 + 1, 0, none⟩) (by simp; omega) (.bool false)
    have yb4 : Dr.Bel [p.I, p.M, W.heap.size + 1 + 1] w1 _ := (yb3.wide (N := [p.I, p.M, W.heap.size + 1 + 1]) (by simp)).put (p := ⟨W.heap.size + 1 + 1, 0, none⟩) (by simp) (.bool false)
    have hK4 : (X3.setCell ⟨W.heap.size + 1 + 1, 0, none⟩ (.bool false)).heap[D1]? = some (.deferred (some [])) := (Below.heap_setCell X3 ⟨W.heap.size + 1 + 1, 0, none⟩ (.bool false) D1 (by simp; omega)).trans hK3
    clear y43 xr3 ym3 yb3 hK3
    go_wp2
    clear c4 f4
    generalize X3.setCell ⟨W.heap.size + 1 + 1, 0, none⟩ (.bool false) = X4 at *
    refine ⟨by simp, .inl ⟨_, _, rfl, run_takeDeferred hK4, ?_⟩⟩
    have hbp : Below w1.heap.size X4 (X4.putObj D1 (.deferred none)) := below_of_grown (grownBy_putObj' X4 D1 _) (fun r e => by cases e; exact hD) yb4.size
    have g5 : Blk (X4.putObj D1 (.deferred none)) (W.heap.size + 1 + 1) 4 [.bool false] := (hbp.block _ h41).trans g4
    have ym5 := ym4.blk (hbp.block _ hM11)
    have xr5 : IArr (X4.putObj D1 (.deferred none)) p.I 3 inl' := (hbp.block _ hI1).trans xr4
    have yb5 := bel_below yb4 hbp
    have c5 := g5.cell (i := 0) rfl
    generalize X4.putObj D1 (.deferred none) = X5 at *
    refine ⟨.bool false, by simp [results, Try.results114, go_sem, c5], ?_⟩
    refine ⟨by rw [Hno.out]; rfl, ⟨yb5.os.trans hb01.os, yb5.tape.trans hb01.tape, yb5.output.trans hb01.output, Nat.le_trans hb01.size yb5.size, fun k hk hm => (yb5.block k (Nat.lt_of_lt_of_le hk hb01.size) ?_).trans (hb01.block k hk)⟩, ym5, inl', xr5, r2, r3, fun q' hq => ?_⟩
    · simp at hm ⊢; omega
    · rw [Hno.out] at hq; cases hq
  case stop =>
    subst ha
    rintro D1 ys X hD hX hK
    refine ⟨by simp, .inl ⟨_, _, rfl, run_takeDeferred hK, ?_⟩⟩
    have hbp : Below w1.heap.size X (X.putObj D1 (.deferred none)) := below_of_grown (grownBy_putObj' X D1 _) (fun r e => by cases e; exact hD) hX.bel.size
    have hX5 := hX.below hbp hI1 hM11 h41
    have c5 := hX5.box.cell (i := 0) rfl
    generalize X.putObj D1 (.deferred none) = X5 at *
    refine ⟨.bool true, by simp [results, Try.results114, go_sem, c5], hX5.res hb01 (by omega)⟩
end
end Go.Proofs.Ytbpmfaibcibleaa

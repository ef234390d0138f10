/- Walks: solve, Best. -/
import Derived.Test.YtcnidhcdkbfpcaaGreatPgF
/- Walk: the best programme (the search's first and its way). -/
namespace Go.Proofs.YtcnidhcdkbfpcaaGreat
open Go.RowKit Go.Bs Go.Pg Go.Pl Go.Sort
def ofV (F S G O : Nat) : Value := .func (.func 74) #[] #[.pointer (some ⟨F, 0, none⟩), .pointer (some ⟨S, 0, none⟩), .pointer (some ⟨G, 0, none⟩), .pointer (some ⟨O, 0, none⟩)]
/-- what the search hands over -/
def SolR (U : Nat) (w : World) (s : Sh) (p : ShP) (v : Value) (W : World) : Prop := ∃ F S G O B n, OfM w s p F S G O B W ∧ MapG s W B n ∧ n ≤ 200 * U ∧
  ((s.solve = none ∧ v = .tuple #[.slice none 0 0, .int .i64 0, ofV F S G O, .bool false]) ∨ ∃ l sl, s.solve = some l ∧ OwnL W w.heap.size 3 1 encI sl (toI l) ∧ v = .tuple #[sl, .int .i64 s.least, ofV F S G O, .bool true])
theorem of_some : ∃ U, 100000 * U ≤ 1000000000000000000 ∧ ∀ (s : Sh) (p : ShP) (w0 : World) (F S G O B : Nat), ShM w0 s p → s.Ok → ∀ z, StOk s z → OfC w0 s p F S G O B z U :=
  ⟨100000000, by decide, fun s p w0 F S G O B h0 hok z hz => of_8 s p w0 F S G O B h0 hok z hz⟩
theorem OfM.rebase {w0 w1 W : World} {s : Sh} {p : ShP} {F S G O B : Nat} (h : OfM w1 s p F S G O B W) (hb : Below w0.heap.size w0 w1) : OfM w0 s p F S G O B W :=
  ⟨hb.trans (h.bl.mono hb.size), h.f, h.sb, h.g, h.o, Nat.le_trans hb.size h.hB, h.ne⟩
theorem OfM.put {w0 W : World} {s : Sh} {p : ShP} {F S G O B : Nat} (h : OfM w0 s p F S G O B W) {q : Addr} (hq : w0.heap.size ≤ q.block) (h1 : F ≠ q.block) (h2 : S ≠ q.block) (h3 : G ≠ q.block) (h4 : O ≠ q.block) (u : Value) : OfM w0 s p F S G O B (W.setCell q u) :=
  ⟨h.bl.setCell hq u, h.f.other h1 u, h.sb.other h2 u, h.g.other h3 u, h.o.other h4 u, h.hB, h.ne⟩
theorem Blk.ne {w : World} {A B T U : Nat} {cs ds : List Value} (h : Blk w A T cs) (k : Blk w B U ds) (hn : T ≠ U ∨ cs ≠ ds) : A ≠ B := by
  rintro rfl
  unfold Blk at h k
  rw [h] at k
  simp only [Option.some.injEq, Obj.cells.injEq] at k
  rcases hn with hn | hn
  · exact hn k.2.1
  · exact hn (by simpa using k.1)
theorem OwnL.bel {α : Type} {w w' : World} {base : Nat} {e : TypeId} {sz : Nat} {enc : α → List Value} {v : Value} {l : List α} (h : OwnL w base e sz enc v l) {B : Nat} (hb : Dr.Bel [B] w w') (hB : B < base) : OwnL w' base e sz enc v l := by
  refine h.kept (row := some B) ⟨hb.os, hb.tape, hb.output, hb.size, fun k hk hne => hb.block k hk (by simp; intro e; exact hne (by rw [e]))⟩ ?_
  cases hv : v.ownBlock with
  | none => exact .inl rfl
  | some k => right; intro e; have := (h.lt hv).1; cases e; omega
theorem OwnL.one {w : World} {base g : Nat} {x : Int} (h : Blk w g 3 [.int .i64 x]) (hb : base ≤ g) : OwnL w base 3 1 encI (.slice (some ⟨g, 0, none⟩) 1 1) [x] :=
  ⟨rfl, .inr ⟨g, 1, _, rfl, hb, h, Nat.le_refl _, by unfold maxLen; omega, rfl, rfl⟩⟩
/-- what the way's loop keeps -/
structure SvI (w : World) (s : Sh) (p : ShP) (U F S G O B X : Nat) (tot : List Nat) (x : St) (k m : Nat) (ord : List Nat) (v : Value) (W : World) : Prop where
  of : OfM w s p F S G O B W
  mp : MapG s W B m
  tb : Blk W (w.heap.size + 1) 60 [ofV F S G O]
  sb : Blk W w.heap.size 37 (shC s p)
  xb : Blk W X 65 (stC x)
  own : OwnL W (X + 1) 3 1 encI v (toI ord)
  ok : StOk s x
  left : s.left x = k
  bst : s.best x < maxT
  eq : ord ++ s.greedy k x = tot
  len : ord.length + k ≤ 8
  hm : m + k * (16 * U) ≤ 200 * U
theorem OwnL.off {w : World} {base : Nat} {e : TypeId} {sz : Nat} {α : Type} {enc : α → List Value} {v : Value} {l : List α} (h : OwnL w base e sz enc v l) {q : Addr} (hq : q.block < base) (u : Value) : OwnL (w.setCell q u) base e sz enc v l := by
  refine h.kept (grownBy_setCell w q u) ?_
  cases hv : v.ownBlock with
  | none => exact .inl rfl
  | some k => right; intro e; have := (h.lt hv).1; cases e; omega
theorem two_bel {w w' : World} {v v' : Value} {n : Nat} (h : (∃ g' cap, v = .slice (some ⟨g', 0, none⟩) n cap ∧ v' = .slice (some ⟨g', 0, none⟩) (n + 1) cap ∧ w.grownBy w' (some g')) ∨ (∃ cap, v' = .slice (some ⟨w.heap.size, 0, none⟩) (n + 1) cap ∧ w.grownBy w' none)) : Dr.Bel v.ownBlock.toList w w' := by
  rcases h with ⟨g', cap, rfl, -, hg⟩ | ⟨cap, -, hg⟩
  · exact ⟨hg.os, hg.tape, hg.output, hg.size, fun k hk hm => hg.block k hk (fun e => hm (by cases e; simp [Value.ownBlock]))⟩
  · exact ⟨hg.os, hg.tape, hg.output, hg.size, fun k hk _ => hg.block k hk (fun e => by cases e)⟩
theorem two_grown {w w' : World} {v v' : Value} {n : Nat} (h : (∃ g' cap, v = .slice (some ⟨g', 0, none⟩) n cap ∧ v' = .slice (some ⟨g', 0, none⟩) (n + 1) cap ∧ w.grownBy w' (some g')) ∨ (∃ cap, v' = .slice (some ⟨w.heap.size, 0, none⟩) (n + 1) cap ∧ w.grownBy w' none)) : w.grownBy w' v.ownBlock := by
  rcases h with ⟨g', cap, rfl, -, hg⟩ | ⟨cap, -, hg⟩
  · exact hg
  · exact ⟨hg.os, hg.tape, hg.output, hg.size, fun k hk _ => hg.block k hk (fun e => by cases e)⟩
theorem own_ne {α : Type} {w : World} {base : Nat} {e : TypeId} {sz : Nat} {enc : α → List Value} {v : Value} {l : List α} (h : OwnL w base e sz enc v l) {A T : Nat} {cs : List Value} (hb : Blk w A T cs) (hT : T ≠ e) : A ∉ v.ownBlock.toList := by
  rcases h.2 with ⟨rfl, -⟩ | ⟨g, cap, cur, rfl, -, hg, -⟩
  · simp [Value.ownBlock]
  · simp only [Value.ownBlock, Option.toList, List.mem_singleton]
    rintro rfl
    unfold Blk at hb
    rw [hg] at hb
    simp only [Option.some.injEq, Obj.cells.injEq] at hb
    exact hT hb.2.1.symm
theorem OfM.own {w0 W W' : World} {s : Sh} {p : ShP} {F S G O B : Nat} (h : OfM w0 s p F S G O B W) {base : Nat} {v : Value} {l : List Int} (ho : OwnL W base 3 1 encI v l) (hb : Dr.Bel v.ownBlock.toList W W') (hbase : w0.heap.size ≤ base) : OfM w0 s p F S G O B W' :=
  ⟨h.bl.trans (hb.old h.bl.size (fun k hk => by have h2 : v.ownBlock = some k := by simpa using hk
                                                have := (ho.lt h2).1
                                                omega)), hb.blk h.f (own_ne ho h.f (by decide)), hb.blk h.sb (own_ne ho h.sb (by decide)), hb.blk h.g (own_ne ho h.g (by decide)), hb.blk h.o (own_ne ho h.o (by decide)), h.hB, h.ne⟩
theorem SvI.ext {w : World} {s : Sh} {p : ShP} {U F S G O B X : Nat} {tot : List Nat} {x : St} {k m : Nat} {ord : List Nat} {v : Value} {W W' : World} (h : SvI w s p U F S G O B X tot x k m ord v W) (hb : Below W.heap.size W W') : SvI w s p U F S G O B X tot x k m ord v W' :=
  ⟨h.of.ext hb, h.mp.ext hb, h.tb.ext hb, h.sb.ext hb, h.xb.ext hb, h.own.ext hb, h.ok, h.left, h.bst, h.eq, h.len, h.hm⟩
set_option maxRecDepth 100000 in
set_option maxHeartbeats 2000000 in
theorem solve_any (U : Nat) (s : Sh) (p : ShP) (w : World) (h : ShM w s p) (hok : s.Ok) (hU : 100000 * U ≤ 1000000000000000000) (hof : ∀ (w0 : World) (F S G O B : Nat), ShM w0 s p → ∀ z, StOk s z → OfC w0 s p F S G O B z U) :
    Calls Tryz.prog 24 #[shV s p] w fun e w' => ∃ v, e = .returned v ∧ SolR U w s p v w' := by
  have hb0 := ext_alloc w (.cells (shC s p).toArray 37)
  have hS := Blk.new w 37 (shC s p)
  have hs0 : (w.alloc (.cells (shC s p).toArray 37)).heap.size = w.heap.size + 1 := by simp
  have CB := Lib.hid (fun W => best_any s p W)
  unfold shV at *
  unfold shC at *
  go_enter Tryz.func24, Tryz.ntmps24
  go_upto_region 1 with fail
  have hT := Blk.new (w.alloc (.cells #[.slice p.A s.acts.length p.cA, .slice p.R s.rest.length p.cR, .slice p.I s.ins.length p.cI, .slice p.O s.outs.length p.cO, .int .i64 s.cover, .int .i64 s.dull, .slice p.B s.before.length p.cB] 37)) 60 [.nilFunc]
  have hbV := ext_alloc (w.alloc (.cells #[.slice p.A s.acts.length p.cA, .slice p.R s.rest.length p.cR, .slice p.I s.ins.length p.cI, .slice p.O s.outs.length p.cO, .int .i64 s.cover, .int .i64 s.dull, .slice p.B s.before.length p.cB] 37)) (.cells #[.nilFunc] 60)
  rw [hs0] at hT
  change Blk (World.alloc _ (.cells #[.nilFunc] 60)) _ _ _ at hT
  have hSV := hS.ext hbV
  have hb1 := hb0.trans (hbV.mono (by omega))
  have hz1 : ((w.alloc (.cells #[.slice p.A s.acts.length p.cA, .slice p.R s.rest.length p.cR, .slice p.I s.ins.length p.cI, .slice p.O s.outs.length p.cO, .int .i64 s.cover, .int .i64 s.dull, .slice p.B s.before.length p.cB] 37)).alloc (.cells #[.nilFunc] 60)).heap.size = w.heap.size + 2 := by simp
  clear hbV hs0 hb0 hS
  generalize (w.alloc (.cells #[.slice p.A s.acts.length p.cA, .slice p.R s.rest.length p.cR, .slice p.I s.ins.length p.cI, .slice p.O s.outs.length p.cO, .int .i64 s.cover, .int .i64 s.dull, .slice p.B s.before.length p.cB] 37)).alloc (.cells #[.nilFunc] 60) = V0 at *
  have q0 : V0.cell? ⟨w.heap.size, 0, none⟩ = _ := hSV.cell (i := 0) rfl
  have q1 : V0.cell? ⟨w.heap.size, 1, none⟩ = _ := hSV.cell (i := 1) rfl
  have q2 : V0.cell? ⟨w.heap.size, 2, none⟩ = _ := hSV.cell (i := 2) rfl
  have q3 : V0.cell? ⟨w.heap.size, 3, none⟩ = _ := hSV.cell (i := 3) rfl
  have q4 : V0.cell? ⟨w.heap.size, 4, none⟩ = _ := hSV.cell (i := 4) rfl
  have q5 : V0.cell? ⟨w.heap.size, 5, none⟩ = _ := hSV.cell (i := 5) rfl
  have q6 : V0.cell? ⟨w.heap.size, 6, none⟩ = _ := hSV.cell (i := 6) rfl
  have C0 := CB.out V0
  unfold shV at C0
  have HC := Lib.hid C0
  clear C0 CB
  have Hz1 := Lib.hid hz1
  clear hz1
  go_upto_region 2 with (refine HC.out.mono ?_; rintro e W1 ⟨F, S, G, O, B, rfl, hof1, hm1⟩; have hT1 : Blk W1 (w.heap.size + 1) 60 [.nilFunc] := (hof1.bl.block _ hT.lt).trans hT; have hFr := hT1.free 0; have hC0 : W1.cell? ⟨w.heap.size + 1, 0, none⟩ = some .nilFunc := hT1.cell (i := 0) rfl)
  have hS1 : Blk W1 w.heap.size 37 _ := (hof1.bl.block _ hSV.lt).trans hSV
  have n1 := Blk.ne hof1.f hT1 (.inl (by decide))
  have n2 := Blk.ne hof1.sb hT1 (.inl (by decide))
  have n3 := Blk.ne hof1.g hT1 (.inl (by decide))
  have n4 := Blk.ne hof1.o hT1 (.inr (by simp))
  have hBz : w.heap.size + 1 < B := by have := hof1.hB; have := Hz1.out; omega
  have hof2 := (hof1.rebase hb1).put (q := ⟨w.heap.size + 1, 0, none⟩) (by simp) n1 n2 n3 n4 (.func (.func 74) #[] #[.pointer (some ⟨F, 0, none⟩), .pointer (some ⟨S, 0, none⟩), .pointer (some ⟨G, 0, none⟩), .pointer (some ⟨O, 0, none⟩)])
  have hm2 := hm1.set (p := ⟨w.heap.size + 1, 0, none⟩) (by simp; omega) (.func (.func 74) #[] #[.pointer (some ⟨F, 0, none⟩), .pointer (some ⟨S, 0, none⟩), .pointer (some ⟨G, 0, none⟩), .pointer (some ⟨O, 0, none⟩)])
  have hT2 := hT1.set 0 (.func (.func 74) #[] #[.pointer (some ⟨F, 0, none⟩), .pointer (some ⟨S, 0, none⟩), .pointer (some ⟨G, 0, none⟩), .pointer (some ⟨O, 0, none⟩)])
  have hS2 := hS1.other (p := ⟨w.heap.size + 1, 0, none⟩) (by simp) (.func (.func 74) #[] #[.pointer (some ⟨F, 0, none⟩), .pointer (some ⟨S, 0, none⟩), .pointer (some ⟨G, 0, none⟩), .pointer (some ⟨O, 0, none⟩)])
  simp only [List.set_cons_zero] at hT2
  clear q0 q1 q2 q3 q4 q5 q6 hT hSV HC n1 n2 n3 n4 hof1 hm1 hT1 hS1 hFr hC0 hb1
  generalize W1.setCell ⟨w.heap.size + 1, 0, none⟩ _ = W2 at *
  have CF := Lib.hid (firsts_any s p W2 (h.ext hof2.bl) hok)
  unfold shV at CF
  have q0 : W2.cell? ⟨w.heap.size, 0, none⟩ = _ := hS2.cell (i := 0) rfl
  have q1 : W2.cell? ⟨w.heap.size, 1, none⟩ = _ := hS2.cell (i := 1) rfl
  have q2 : W2.cell? ⟨w.heap.size, 2, none⟩ = _ := hS2.cell (i := 2) rfl
  have q3 : W2.cell? ⟨w.heap.size, 3, none⟩ = _ := hS2.cell (i := 3) rfl
  have q4 : W2.cell? ⟨w.heap.size, 4, none⟩ = _ := hS2.cell (i := 4) rfl
  have q5 : W2.cell? ⟨w.heap.size, 5, none⟩ = _ := hS2.cell (i := 5) rfl
  have q6 : W2.cell? ⟨w.heap.size, 6, none⟩ = _ := hS2.cell (i := 6) rfl
  have hTl := hT2.lt
  have hBl2 := hm2.lt
  have Hof := Lib.hid (fun z hz => hof w F S G O B h z hz)
  have hn8 := hok.n8
  have hFl : s.firsts.length ≤ 8 := Nat.le_trans (firTo_len s s.acts.length) hn8
  have Hlt := Lib.hid (fun a (ha : a ∈ s.firsts) => Sh.firsts_lt ha)
  have Hone := Lib.hid (fun a (ha : a < s.acts.length) => StOk.one ha)
  have Hbd := Lib.hid (fun y => show 0 ≤ s.best y ∧ s.best y ≤ 1000000 from Sh.best_bd hok y)
  have Hscan := Lib.hid (scan_solve s)
  have Hleast := Lib.hid (scan_least s)
  have Hok := Lib.hid hok
  have Hsh := Lib.hid h
  clear hof hok h
  generalize hFL : s.firsts = FL at *
  have HFL := Lib.hid hFL
  clear hFL
  go_upto_region 4 with fail
  go_wp2_with fail
  refine CF.out.mono ?_
  rintro e W3 ⟨⟨fv, rfl, hown3⟩, hx3⟩
  have hcl := hown3.cells encI_len
  rw [toI_len] at hcl
  obtain ⟨A, cA, rfl, -, -, hcel⟩ := hcl
  have hge := hown3.block_ge rfl
  have hof3 := hof2.ext hx3
  have hm3 := hm2.ext hx3
  have hT3 := hT2.ext hx3
  have hS3 := hS2.ext hx3
  clear CF q0 q1 q2 q3 q4 q5 q6 hof2 hm2 hT2 hS2 hown3
  have hBl := hm3.lt
  have Hbl2 := Lib.hid hBl2
  clear hBl2
  have HU := Lib.hid hU
  clear hU
  have hb30 : Dr.Bel [B] W3 W3 := Dr.Bel.refl _ _
  have hAB : ∀ k, A.map (·.block) = some k → k ≠ B := fun k hk e => by have := (hge k hk).1; have := Hbl2.out; omega
  have Hs0 := Lib.hid (show scan (fun a => s.best (Sh.one a)) (FL.take 0) = (1000000, -1) from rfl)
  have Hsn := Lib.hid (fun i (h : i < FL.length) => show scan (fun a => s.best (Sh.one a)) (FL.take (i + 1)) = if s.best (Sh.one FL[i]) < (scan (fun a => s.best (Sh.one a)) (FL.take i)).1 then (s.best (Sh.one FL[i]), (FL[i] : Int)) else scan (fun a => s.best (Sh.one a)) (FL.take i) from by rw [List.take_succ_eq_append_getElem h, scan_snoc])
  have Hn8 := Lib.hid hn8
  clear hn8
  go_wp2
  go_loopw [3, 6, 21] (fun c f t wr => ∃ (i : Nat) (cv fv : Int), c = .int .i64 cv ∧ f = .int .i64 fv ∧ t = .int .i64 i ∧ i ≤ FL.length ∧ Hid (scan (fun a => s.best (Sh.one a)) (FL.take i) = (cv, fv)) ∧ Dr.Bel [B] W3 wr ∧ MapG s wr B (0 + i * U)) (fun _ _ t _ => FL.length - (intOf t).toNat)
  case atStart => exact ⟨0, _, _, rfl, rfl, rfl, by omega, Hs0, hb30, by rw [Nat.zero_mul]; exact hm3⟩
  case round =>
    obtain ⟨i, cv, fv, rfl, rfl, rfl, hi, Hsc, hbr, hmr⟩ := hrel
    have hofr := hof3.bel hbr
    have hTr := hbr.blk hT3 (by simp; omega)
    have hcr := Dr.cells_bel hcel hbr (fun k hk => by simpa using hAB k hk)
    by_cases hlt : i < FL.length
    · obtain ⟨b, o, rfl, hbl, c0⟩ := hcr.at1 (k := i) (by rw [toI_len]; exact hlt) rfl
      have hy := List.getElem_mem hlt
      have hal := Hlt.out _ hy
      have ha8 : FL[i] < 8 := Nat.lt_of_lt_of_le hal Hn8.out
      have hby := Hbd.out (Sh.one FL[i])
      have HI := Lib.hid (Hof.out _ (Hone.out _ hal))
      have Hsi := Lib.hid (Hsn.out i hlt)
      have c1 : wr.cell? ⟨b, o + i, none⟩ = some (.int .i64 ((FL[i] : Nat) : Int)) := by rw [c0]; simp [toI]
      have hpw := pow16 (a := FL[i]) (by omega)
      unfold OfC at HI
      unfold Sh.one St.val at HI
      generalize FL[i] = a at *
      have hlt' : (i : Int) < (FL.length : Int) := by omega
      have hi0 : (0 : Int) ≤ i := by omega
      have hlen : (toI FL).length = FL.length := toI_len FL
      have hmul : (i + 1) * U ≤ 8 * U := Nat.mul_le_mul_right _ (by omega)
      have hmul2 : (i + 1) * U = i * U + U := by rw [Nat.add_mul, Nat.one_mul]
      clear hy hcr c0
      go_upto_region 7 with fail
      refine Dr.wp_region_plan 8 [B] (.q [0, 1, 2, 3, 4, 5] (.e1 6 (.q [7] .done))) (by kernel_rfl) (by kernel_rfl) ?_
      have hof5 := hofr.ext (ext_drew wr)
      have hm5 := hmr.ext (ext_drew wr)
      have hb5 := hbr.trans (Dr.Bel.of (ext_drew wr))
      have hT5 := hTr.ext (ext_drew wr)
      clear hofr hmr hbr hTr c1
      generalize World.drew _ = V at *
      have q0 := Dr.cls_cell (M := [B]) (hT5.cell (i := 0) rfl) (by simp; omega)
      have ha0 : (0 : Int) ≤ a := by omega
      refine Dr.plan_q (l := [_, _, _, _, _, _]) rfl (fun K hK => ?_)
      iterate 6 (go_big_quiet_step (fail))
      refine wpQuiet_nil (hK _ ?_); clear hK K
      have CI := Lib.hid (HI.out (0 + i * U) V hof5 hm5 (by have := HU.out; omega))
      clear hof5 hm5 hT5 q0
      refine Dr.plan_e rfl (by rfl) (fun K hK => ?_)
      go_wp2_with fail
      refine CI.out.mono ?_; rintro e V2 ⟨rfl, hb6, hm6⟩
      refine hK _ _ hb6 ?_; clear hK K CI HI
      have hb7 := hb5.trans hb6
      rw [show 0 + i * U + U = 0 + (i + 1) * U by omega] at hm6
      have Hm6 := Lib.hid hm6
      clear hb5 hb6 hm6 hpw
      generalize hg : s.best { set := 2 ^ a, last := a, sec := a } = by_ at *
      have Hg := Lib.hid hg
      clear hg
      refine Dr.plan_q (l := [_]) rfl (fun K hK => ?_)
      iterate 1 (go_big_quiet_step (fail))
      refine wpQuiet_nil (hK _ ?_); clear hK K
      refine Dr.plan_end rfl ?_
      by_cases hq : by_ < cv
      · have hsc := Hsi.out
        have Hq := Lib.hid hq
        go_wp2
        go_roundw
        case rel => exact ⟨i + 1, _, _, rfl, rfl, by go_num, by omega, Lib.hid (by
          rw [hsc, Hsc.out]
          unfold Sh.one
          rw [Hg.out]
          show (if _ < cv then _ else _) = _
          rw [if_pos (by exact Hq.out)]), hb7, Hm6.out⟩
        case measure => simp [intOf]; omega
      · have hsc := Hsi.out
        have Hq := Lib.hid hq
        go_wp2
        go_roundw
        case rel => exact ⟨i + 1, _, _, rfl, rfl, by go_num, by omega, Lib.hid (by
          rw [hsc, Hsc.out]
          unfold Sh.one
          rw [Hg.out]
          show (if _ < cv then _ else _) = _
          rw [if_neg (by exact Hq.out)]), hb7, Hm6.out⟩
        case measure => simp [intOf]; omega
    · obtain rfl : i = FL.length := by omega
      have hsc := Hsc.out
      rw [List.take_length] at hsc
      have hS4 : Blk wr w.heap.size 37 _ := hbr.blk hS3 (by simp; omega)
      clear hcr hcel hof3 hm3 hT3 hS3 hb30 Hs0 Hsn Hsc Hbd
      rcases Hscan.out with ⟨h1, h2⟩ | ⟨a, ha, h1, h2, h3, h4⟩
      · rw [hsc] at h1
        simp only at h1
        subst h1
        have Hnone := Lib.hid h2
        clear h2 hsc Hscan Hleast
        go_upto_region 12 with fail
        refine Dr.wp_region_plan 3 [B] (.q [0, 1, 2] .done) (by kernel_rfl) (by kernel_rfl) ?_
        have hof5 := hofr.ext (ext_drew wr)
        have hm5 := hmr.ext (ext_drew wr)
        have hT5 := hTr.ext (ext_drew wr)
        clear hofr hmr hbr hTr hS4
        generalize World.drew _ = V at *
        have q0 := Dr.cls_cell (M := [B]) (hT5.cell (i := 0) rfl) (by simp; omega)
        refine Dr.plan_q (l := [_, _, _]) rfl (fun K hK => ?_)
        iterate 3 (go_big_quiet_step (fail))
        refine wpQuiet_nil (hK _ ?_); clear hK K q0
        refine Dr.plan_done (tl := [_, _]) rfl ?_
        have c0 : V.cell? ⟨w.heap.size + 1, 0, none⟩ = some _ := hT5.cell (i := 0) rfl
        have c1 := hT5.free 0
        have c2 := set_self (v := .func (.func 74) #[] #[.pointer (some ⟨F, 0, none⟩), .pointer (some ⟨S, 0, none⟩), .pointer (some ⟨G, 0, none⟩), .pointer (some ⟨O, 0, none⟩)]) hT5 (i := 0) rfl
        go_wp2
        have hFm : FL.length * U ≤ 8 * U := Nat.mul_le_mul_right _ hFl
        refine bodyPost_ret (v := .tuple #[.slice none 0 0, .int .i64 0, .func (.func 74) #[] #[.pointer (some ⟨F, 0, none⟩), .pointer (some ⟨S, 0, none⟩), .pointer (some ⟨G, 0, none⟩), .pointer (some ⟨O, 0, none⟩)], .bool false]) (by simp [results, Tryz.results24, go_sem, c0]) rfl ?_
        exact ⟨_, rfl, F, S, G, O, B, _, hof5, hm5, by omega, .inl ⟨Hnone.out, rfl⟩⟩
      · have hal := Hlt.out _ ha
        have ha8 : a < 8 := Nat.lt_of_lt_of_le hal Hn8.out
        have ha0 : (0 : Int) ≤ a := by omega
        have hpw := pow16 (a := a) (by omega)
        rw [hsc] at h1
        have hls := Hleast.out
        rw [hsc] at hls
        simp only at h1 hls
        have hfa : fv = (a : Int) := h1
        have hcl : cv = s.least := hls
        have Hls := Lib.hid hcl
        subst hfa
        have Hr := Lib.hid (And.intro h2 (And.intro h3 h4))
        have HX0 := Lib.hid (Hone.out _ hal)
        clear hcl hls h1 h2 h3 h4 hsc Hscan Hleast
        go_upto_block 2 with fail
        have hp2 : ((2 ^ a : Nat) : Int) = (2 : Int) ^ a := by simp
        have hXn := Blk.new wr 65 [.int .u16 ((2 : Int) ^ a), .int .i64 a, .int .i64 a]
        have hbx := ext_alloc wr (.cells #[.int .u16 ((2 : Int) ^ a), .int .i64 a, .int .i64 a] 65)
        have hOn := Blk.new (wr.alloc (.cells #[.int .u16 ((2 : Int) ^ a), .int .i64 a, .int .i64 a] 65)) 3 [.int .i64 a]
        have hby := ext_alloc (wr.alloc (.cells #[.int .u16 ((2 : Int) ^ a), .int .i64 a, .int .i64 a] 65)) (.cells #[.int .i64 a] 3)
        have hXz : (wr.alloc (.cells #[.int .u16 ((2 : Int) ^ a), .int .i64 a, .int .i64 a] 65)).heap.size = wr.heap.size + 1 := by simp
        have hVz : ((wr.alloc (.cells #[.int .u16 ((2 : Int) ^ a), .int .i64 a, .int .i64 a] 65)).alloc (.cells #[.int .i64 a] 3)).heap.size = wr.heap.size + 2 := by simp
        have hbv := hbx.trans (hby.mono (by simp))
        change Blk (wr.alloc (.cells #[.int .u16 ((2 : Int) ^ a), .int .i64 a, .int .i64 a] 65)) _ _ _ at hXn
        have hX0 := hXn.ext hby
        rw [hXz] at hOn
        change Blk (World.alloc _ (.cells #[.int .i64 a] 3)) _ _ _ at hOn
        generalize (wr.alloc (.cells #[.int .u16 ((2 : Int) ^ a), .int .i64 a, .int .i64 a] 65)).alloc (.cells #[.int .i64 a] 3) = VX at *
        have hXB : B < wr.heap.size := hmr.lt
        have hFm : FL.length * U ≤ 8 * U := Nat.mul_le_mul_right _ hFl
        obtain ⟨n1, hn1⟩ : ∃ n1, n1 + 1 = s.acts.length := ⟨s.acts.length - 1, by omega⟩
        have hk16 : n1 * (16 * U) ≤ 7 * (16 * U) := Nat.mul_le_mul_right _ (by have := Hn8.out; omega)
        have HI := Lib.hid (show SvI w s p U F S G O B wr.heap.size (a :: s.greedy n1 (Sh.one a)) (Sh.one a) n1 (0 + FL.length * U) [a] (.slice (some ⟨wr.heap.size + 1, 0, none⟩) 1 1) VX from
          ⟨hofr.ext hbv, hmr.ext hbv, hTr.ext hbv, hS4.ext hbv, by unfold stC Sh.one; rw [hp2]; exact hX0, OwnL.one hOn (by omega), HX0.out, by have := Sh.left_one hal; omega, by rw [Hr.out.1]; exact Hr.out.2.1, rfl, by have := Hn8.out; simp; omega, by omega⟩)
        have hr3 := Hr.out.2.2
        rw [show s.acts.length - 1 = n1 by omega] at hr3
        have Hr3 := Lib.hid hr3
        clear hofr hmr hTr hS4 hXn hbx hOn hby hbv hX0 hbr hr3 hp2 hpw hk16 HX0 Hr hge hAB hFm
        generalize (a :: s.greedy n1 (Sh.one a)) = tot at *
        generalize wr.heap.size = X at *
        have Hh := Lib.hid (And.intro hXz hVz)
        clear hXz hVz
        go_wp2
        go_loopg [2] n1 (fun g v wr => ∃ (x : St) (k m : Nat) (ord : List Nat), k ≤ g ∧ SvI w s p U F S G O B X tot x k m ord v wr ∧ VX.heap.size ≤ wr.heap.size)
        case atStart => exact ⟨_, _, _, _, Nat.le_refl _, HI.out, Nat.le_refl _⟩
        case round =>
          obtain ⟨x, k, m, ord, hkg, HS, hVs⟩ := hrel
          go_upto_region 15 with fail
          refine Dr.wp_region_plan 5 [] (.q [0, 1, 2] (.e1 3 (.q [4] .done))) (by kernel_rfl) (by kernel_rfl) ?_
          have HS1 := HS.ext (ext_drew wr)
          have hV1 : VX.heap.size ≤ wr.drew.heap.size := hVs
          clear HS hVs
          generalize World.drew _ = V at *
          have q0 := Dr.cell0 (HS1.sb.cell (i := 0) rfl)
          have q1 := Dr.cell0 (HS1.sb.cell (i := 1) rfl)
          have q2 := Dr.cell0 (HS1.sb.cell (i := 2) rfl)
          have q3 := Dr.cell0 (HS1.sb.cell (i := 3) rfl)
          have q4 := Dr.cell0 (HS1.sb.cell (i := 4) rfl)
          have q5 := Dr.cell0 (HS1.sb.cell (i := 5) rfl)
          have q6 := Dr.cell0 (HS1.sb.cell (i := 6) rfl)
          have q7 := Dr.cell0 (HS1.xb.cell (i := 0) rfl)
          have CW := Lib.hid (whole_any s p V Hn8.out)
          unfold shV at CW
          have HZ1 := Lib.hid HS1
          clear HS1
          refine Dr.plan_q (l := [_, _, _]) rfl (fun K hK => ?_)
          iterate 3 (go_big_quiet_step (fail))
          refine wpQuiet_nil (hK _ ?_); clear hK K
          clear q0 q1 q2 q3 q4 q5 q6 q7
          refine Dr.plan_e rfl (by rfl) (fun K hK => ?_)
          go_wp2_with fail
          refine CW.out.mono ?_; rintro e V2 ⟨rfl, hx2⟩
          refine hK _ _ (.of hx2) ?_; clear hK K
          have HS2 := Lib.hid (HZ1.out.ext hx2)
          have hV2 := Nat.le_trans hV1 hx2.size
          clear CW HZ1 hx2 hV1
          refine Dr.plan_q (l := [_]) rfl (fun K hK => ?_)
          iterate 1 (go_big_quiet_step (fail))
          refine wpQuiet_nil (hK _ ?_); clear hK K
          refine Dr.plan_end rfl ?_
          by_cases he : x.set = s.whole
          · have he' : ((x.set : Int) == s.whole) = true := by simp; omega
            have he2 : ((x.set : Int) != s.whole) = false := by simp; omega
            have hk0 : k = 0 := by
              have h1 := (Sh.whole_iff (s := s) HS2.out.ok.set).1 he
              have h2 := HS2.out.left
              unfold Sh.left at h2
              omega
            subst hk0
            have Htot := Lib.hid (show ord = tot by have := HS2.out.eq; simpa [Sh.greedy] using this)
            go_upto_region 19 with fail
            refine Dr.wp_region_plan 5 [] (.q [0, 1, 2, 3, 4] .done) (by kernel_rfl) (by kernel_rfl) ?_
            have HS3 := Lib.hid (HS2.out.ext (ext_drew V2))
            clear HS2 hV2
            generalize World.drew _ = V3 at *
            have q0 := Dr.cell0 (HS3.out.tb.cell (i := 0) rfl)
            unfold ofV at q0
            refine Dr.plan_q (l := [_, _, _, _, _]) rfl (fun K hK => ?_)
            iterate 5 (go_big_quiet_step (fail))
            refine wpQuiet_nil (hK _ ?_); clear hK K q0
            refine Dr.plan_done (tl := [_, _]) rfl ?_
            have hT5 := HS3.out.tb
            unfold ofV at hT5
            have c0 : V3.cell? ⟨w.heap.size + 1, 0, none⟩ = some _ := hT5.cell (i := 0) rfl
            have c1 := hT5.free 0
            have c2 := set_self (v := .func (.func 74) #[] #[.pointer (some ⟨F, 0, none⟩), .pointer (some ⟨S, 0, none⟩), .pointer (some ⟨G, 0, none⟩), .pointer (some ⟨O, 0, none⟩)]) hT5 (i := 0) rfl
            go_wp2
            refine bodyPost_ret (v := .tuple #[u2, .int .i64 cv, .func (.func 74) #[] #[.pointer (some ⟨F, 0, none⟩), .pointer (some ⟨S, 0, none⟩), .pointer (some ⟨G, 0, none⟩), .pointer (some ⟨O, 0, none⟩)], .bool true]) (by simp [results, Tryz.results24, go_sem, c0]) rfl ?_
            exact ⟨_, rfl, F, S, G, O, B, m, HS3.out.of, HS3.out.mp, by have := HS3.out.hm; omega, .inr ⟨tot, u2, Hr3.out, by rw [← Htot.out]; exact OwnL.up HS3.out.own (by omega), by rw [Hls.out]; rfl⟩⟩
          · have he' : ((x.set : Int) == s.whole) = false := by simp; omega
            have he2 : ((x.set : Int) != s.whole) = true := by simp; omega
            obtain ⟨k', rfl⟩ : ∃ k', k = k' + 1 := by
              refine ⟨k - 1, ?_⟩
              have h2 := HS2.out.left
              have h1 : ¬ leftR s.acts.length x.set = 0 := fun h => he ((Sh.whole_iff (s := s) HS2.out.ok.set).2 h)
              unfold Sh.left at h2
              omega
            obtain ⟨j, hj, g1, g2, g3, g4⟩ := greedy_next Hok.out HS2.out.ok.set HS2.out.left HS2.out.bst
            have Hg := Lib.hid (And.intro g1 (And.intro g2 (And.intro g3 g4)))
            have CF := Lib.hid (follows_any s p x V2 (Hsh.out.ext HS2.out.of.bl) Hok.out HS2.out.ok)
            have hfl := fol_len s x
            have hn8 := Hn8.out
            have hL8 : (s.fol x).length ≤ 8 := by omega
            unfold shV St.val at CF
            have q0 : V2.cell? ⟨w.heap.size, 0, none⟩ = _ := HS2.out.sb.cell (i := 0) rfl
            have q1 : V2.cell? ⟨w.heap.size, 1, none⟩ = _ := HS2.out.sb.cell (i := 1) rfl
            have q2 : V2.cell? ⟨w.heap.size, 2, none⟩ = _ := HS2.out.sb.cell (i := 2) rfl
            have q3 : V2.cell? ⟨w.heap.size, 3, none⟩ = _ := HS2.out.sb.cell (i := 3) rfl
            have q4 : V2.cell? ⟨w.heap.size, 4, none⟩ = _ := HS2.out.sb.cell (i := 4) rfl
            have q5 : V2.cell? ⟨w.heap.size, 5, none⟩ = _ := HS2.out.sb.cell (i := 5) rfl
            have q6 : V2.cell? ⟨w.heap.size, 6, none⟩ = _ := HS2.out.sb.cell (i := 6) rfl
            have q7 : V2.cell? ⟨X, 0, none⟩ = _ := HS2.out.xb.cell (i := 0) rfl
            have q8 : V2.cell? ⟨X, 1, none⟩ = _ := HS2.out.xb.cell (i := 1) rfl
            have q9 : V2.cell? ⟨X, 2, none⟩ = _ := HS2.out.xb.cell (i := 2) rfl
            clear g1 g2 g3 g4
            go_upto_region 16 with fail
            go_wp2_with fail
            refine CF.out.mono ?_; rintro e V3 ⟨⟨v, rfl, hv⟩, hx3⟩
            obtain ⟨A1, c1, rfl, -, -, hcl⟩ := hv.cells nx_len
            have hge := hv.block_ge rfl
            have HS3 := Lib.hid (HS2.out.ext hx3)
            have hV3 := Nat.le_trans hV2 hx3.size
            have Hgz := Lib.hid (fun y => hge y)
            clear CF q0 q1 q2 q3 q4 q5 q6 q7 q8 q9 hv hge
            have Hgl := Lib.hid (fun g (h : u2.ownBlock = some g) => HS2.out.own.lt h)
            have hXl := HS2.out.xb.lt
            have hBl2 := HS2.out.mp.lt
            clear HS2 hV2 hx3
            go_upto_region 17 with fail
            have hTB : w.heap.size + 1 ≠ B := by omega
            have hXB2 : X ≠ B := by omega
            have hAM : ∀ k, A1.map (·.block) = some k → k ∉ [B] := fun k hk => by have := (Hgz.out k hk).1; simp; omega
            have hstep : ∀ i : Nat, (i + 1) * (U + U) = i * (U + U) + U + U := fun i => by rw [Nat.add_mul, Nat.one_mul]; omega
            have hle16 : ∀ i : Nat, i ≤ 8 → i * (U + U) ≤ 16 * U := fun i hi => Nat.le_trans (Nat.mul_le_mul_right _ hi) (by omega)
            have hk16 : (k' + 1) * (16 * U) = k' * (16 * U) + 16 * U := by rw [Nat.add_mul, Nat.one_mul]
            have hm16 : m + (k' + 1) * (16 * U) ≤ 200 * U := HS3.out.hm
            have CI := Lib.hid (index_st 51 #[.pointer (some ⟨w.heap.size + 1, 0, none⟩), .pointer (some ⟨X, 0, none⟩)] (fun y => decide (y.cost + s.best y.st = s.best x)) [B] A1 (s.fol x).length c1 (s.fol x) V3 (enters_of Tryz.func51 (by kernel_rfl) rfl) rfl (by omega) hcl hAM
              (fun i W => MapG s W B (m + i * (U + U))) (by have := HS3.out.mp; simpa using this) (fun i h W hbel hI => by
                have hpi := pred_any s p w F S G O B (w.heap.size + 1) X Hsh.out Hok.out x _ HS3.out.ok (List.getElem_mem h) (m + i * (U + U)) W (HS3.out.of.bel hbel) hI U Hof.out (by have := HU.out; have := hle16 i (by omega); omega) (hbel.blk HS3.out.tb (by simpa using hTB)) (hbel.blk HS3.out.xb (by simpa using hXB2)) hTB hXB2
                rw [show m + (i + 1) * (U + U) = m + i * (U + U) + U + U by rw [hstep i]; omega]
                exact hpi))
            go_wp2_with fail
            refine CI.out.mono ?_; rintro e V4 ⟨rfl, hb4, i, hi, hI4⟩
            have hm4 : MapG s V4 B (m + 16 * U) := hI4.mono (by have := hle16 i (by omega); omega)
            rw [Hg.out.1]
            have hof4 := HS3.out.of.bel hb4
            have htb4 := hb4.blk HS3.out.tb (by simpa using hTB)
            have hsb4 := hb4.blk HS3.out.sb (by simp; omega)
            have hxb4 := hb4.blk HS3.out.xb (by simpa using hXB2)
            have hown4 := OwnL.bel HS3.out.own hb4 (by omega)
            have hcl4 := Dr.cells_bel hcl hb4 hAM
            obtain ⟨b, off, rfl, hbl, c0, c1', c2, c3, c4⟩ := hcl4.at5 hj rfl
            have hV4 := Nat.le_trans hV3 hb4.size
            have hlen4 := HS3.out.len
            have hsto := HS3.out.ok.fol (List.getElem_mem hj)
            have Hrest := Lib.hid (And.intro HS3.out.left HS3.out.eq)
            have hgb := (Hgz.out b rfl).1
            have hX4 := hxb4.lt
            have hjn : (j : Int) < ((s.fol x).length : Int) := by omega
            have hj0 : (0 : Int) ≤ j := by omega
            clear CI hI4 HS3 hcl hcl4 Hgz hAM hb4 hV3 hi
            generalize (s.fol x)[j] = y at *
            go_upto_region 18 with fail
            refine Dr.wp_region_plan 14 u2.ownBlock.toList (.q [0, 1, 2, 3, 4, 5, 8, 9, 10, 11, 12] (.e1 6 (.e1 7 (.q [13] .done)))) (by kernel_rfl) (by kernel_rfl) ?_
            have hof5 := hof4.ext (ext_drew V4)
            have hm5 := hm4.ext (ext_drew V4)
            have htb5 := htb4.ext (ext_drew V4)
            have hsb5 := hsb4.ext (ext_drew V4)
            have hxb5 := hxb4.ext (ext_drew V4)
            have hown5 := hown4.drew
            have d0 := cell_ext c0 (ext_drew V4)
            have d1 := cell_ext c1' (ext_drew V4)
            have d2 := cell_ext c2 (ext_drew V4)
            have d3 := cell_ext c3 (ext_drew V4)
            have d4 := cell_ext c4 (ext_drew V4)
            have hV5 : VX.heap.size ≤ V4.drew.heap.size := hV4
            have hX5 := hxb5.lt
            clear hof4 hm4 htb4 hsb4 hxb4 hown4 c0 c1' c2 c3 c4 hV4 hX4 hbl
            generalize World.drew _ = V at *
            have hbM : b ∉ u2.ownBlock.toList := by
              intro hh
              have hh2 : u2.ownBlock = some b := by simpa using hh
              have := (Hgl.out b hh2).2
              omega
            have q0 := Dr.cls_cell d0 hbM
            have q2 := Dr.cls_cell d2 hbM
            have q3 := Dr.cls_cell d3 hbM
            have q4 := Dr.cls_cell d4 hbM
            have Hbm := Lib.hid hbM
            clear hbM
            refine Dr.plan_q (l := [_, _, _, _, _, _, _, _, _, _, _]) rfl (fun K hK => ?_)
            iterate 11 (go_big_quiet_step (fail))
            refine wpQuiet_nil (hK _ ?_); clear hK K
            clear q0 q2 q3 q4 d0 d1 d2 d3 d4
            have hNew := Blk.new V 3 [.int .i64 (y.act : Int)]
            have hbe := ext_alloc V (.cells #[.int .i64 (y.act : Int)] 3)
            refine Dr.plan_e rfl (by rfl) (fun K hK => ?_)
            go_wp2_with fail
            refine hK _ _ (.of hbe) ?_; clear hK K
            change Blk (V.alloc (.cells #[.int .i64 (y.act : Int)] 3)) _ _ _ at hNew
            have hof6 := hof5.ext hbe
            have hm6 := hm5.ext hbe
            have htb6 := htb5.ext hbe
            have hsb6 := hsb5.ext hbe
            have hxb6 := hxb5.ext hbe
            have hown6 := hown5.ext hbe
            have hV6 := Nat.le_trans hV5 hbe.size
            have hX6 := hxb6.lt
            clear hof5 hm5 htb5 hsb5 hxb5 hown5 hV5 hX5 hbe
            generalize V.alloc (.cells #[.int .i64 (y.act : Int)] 3) = V6 at *
            refine Dr.plan_e rfl (by rfl) (fun K hK => ?_)
            refine app1_two 23 3 et23 _ _ rfl (X + 1) u2 (toI ord) rfl hown6 V.heap.size rfl (y.act : Int) (hNew.cell rfl) (by rw [toI_len]; omega) (by omega) (fun v' V7 hown7 hcase => ?_)
            have hb7 := two_bel hcase
            have hgr7 := two_grown hcase
            refine hK _ _ hb7 ?_; clear hK K hcase
            have hof7 := hof6.own hown6 hb7 (by omega)
            have hm7 : MapG s V7 B (m + 16 * U) := hm6.kept hgr7 (fun e => by have := (Hgl.out B e.symm).1; omega)
            have htb7 := hb7.blk htb6 (own_ne hown6 htb6 (by decide))
            have hsb7 := hb7.blk hsb6 (own_ne hown6 hsb6 (by decide))
            have hxb7 := hb7.blk hxb6 (own_ne hown6 hxb6 (by decide))
            have hV7 := Nat.le_trans hV6 hb7.size
            rw [show toI ord ++ [(y.act : Int)] = toI (ord ++ [y.act]) by rw [toI_snoc]] at hown7
            clear hof6 hm6 htb6 hsb6 hxb6 hown6 hV6 hX6 hb7 hgr7 hNew
            go_frame
            refine Dr.plan_q (l := [_]) rfl (fun K hK => ?_)
            iterate 1 (go_big_quiet_step (fail))
            refine wpQuiet_nil (hK _ ?_); clear hK K
            refine Dr.plan_done (tl := [_]) rfl ?_
            have e0 : V7.cell? ⟨X, 0, none⟩ = some _ := hxb7.cell (i := 0) rfl
            have e1 : V7.cell? ⟨X, 1, none⟩ = some _ := hxb7.cell (i := 1) rfl
            have e2 : V7.cell? ⟨X, 2, none⟩ = some _ := hxb7.cell (i := 2) rfl
            have f0 := hxb7.free 0
            have f1 := hxb7.free 1
            have f2 := hxb7.free 2
            go_wp2
            go_roundg k'
            case measure => omega
            case rel =>
              obtain ⟨-, g2, g3, g4⟩ := Hg.out
              have hr2 := Hrest.out.2
              have hl2 := hof7.bl.size
              refine ⟨y.st, k', m + 16 * U, ord ++ [y.act], Nat.le_refl _, ⟨?_, ?_, ?_, ?_, ?_, ?_, hsto, g4, g3, ?_, ?_, ?_⟩, by simpa using hV7⟩
              · exact ((hof7.put (q := ⟨X, 0, none⟩) (by simp; omega) (Blk.ne hof7.f hxb7 (.inl (by decide))) (Blk.ne hof7.sb hxb7 (.inl (by decide))) (Blk.ne hof7.g hxb7 (.inl (by decide))) (Blk.ne hof7.o hxb7 (.inl (by decide))) _).put (q := ⟨X, 1, none⟩) (by simp; omega) (Blk.ne hof7.f hxb7 (.inl (by decide))) (Blk.ne hof7.sb hxb7 (.inl (by decide))) (Blk.ne hof7.g hxb7 (.inl (by decide))) (Blk.ne hof7.o hxb7 (.inl (by decide))) _).put (q := ⟨X, 2, none⟩) (by simp; omega) (Blk.ne hof7.f hxb7 (.inl (by decide))) (Blk.ne hof7.sb hxb7 (.inl (by decide))) (Blk.ne hof7.g hxb7 (.inl (by decide))) (Blk.ne hof7.o hxb7 (.inl (by decide))) _
              · exact ((hm7.set (p := ⟨X, 0, none⟩) (Ne.symm hXB2) _).set (p := ⟨X, 1, none⟩) (Ne.symm hXB2) _).set (p := ⟨X, 2, none⟩) (Ne.symm hXB2) _
              · exact ((htb7.other (p := ⟨X, 0, none⟩) (by simp; omega) _).other (p := ⟨X, 1, none⟩) (by simp; omega) _).other (p := ⟨X, 2, none⟩) (by simp; omega) _
              · exact ((hsb7.other (p := ⟨X, 0, none⟩) (by simp; omega) _).other (p := ⟨X, 1, none⟩) (by simp; omega) _).other (p := ⟨X, 2, none⟩) (by simp; omega) _
              · exact ((hxb7.set 0 (.int .u16 y.st.set)).set 1 (.int .i64 y.st.last)).set 2 (.int .i64 y.st.sec)
              · exact OwnL.off (OwnL.off (OwnL.off hown7 (q := ⟨X, 0, none⟩) (by simp) _) (q := ⟨X, 1, none⟩) (by simp) _) (q := ⟨X, 2, none⟩) (by simp) _
              · rw [← hr2, g2, List.append_assoc]; rfl
              · simp; omega
              · omega
theorem Solve_any : ∃ U, 100000 * U ≤ 1000000000000000000 ∧ ∀ (s : Sh) (p : ShP) (w : World), ShM w s p → s.Ok → (Calls Tryz.prog 24 #[shV s p] w fun e w' => ∃ v, e = .returned v ∧ SolR U w s p v w') ∧ ∀ (w0 : World) (F S G O B : Nat), ShM w0 s p → ∀ z, StOk s z → OfC w0 s p F S G O B z U := by
  obtain ⟨U, h1, h2⟩ := of_some
  exact ⟨U, h1, fun s p w h hok => ⟨solve_any U s p w h hok h1 (fun w0 F S G O B h0 z hz => h2 s p w0 F S G O B h0 hok z hz), fun w0 F S G O B h0 z hz => h2 s p w0 F S G O B h0 hok z hz⟩⟩
end Go.Proofs.YtcnidhcdkbfpcaaGreat

/- Tables in memory; what the making of one keeps. -/
namespace Go.Proofs.YtcnidhcdkbfpcaaGreat
open Go.RowKit Go.Bs Go.Pg Go.Pl Go.Sort
def encR (r : Nat × Nat) : List Value := [.slice (some ⟨r.1, 0, none⟩) r.2 r.2]
theorem encR_len (r : Nat × Nat) : (encR r).length = 1 := rfl
theorem encR_one (r : Nat × Nat) : ∀ u ∈ encR r, u.oneCell' = true := by intro u hu; simp [encR] at hu; rw [hu]; rfl
theorem et29 : ElemT Tryz.prog 27 23 1 24 := ElemT.mk (z := .slice none 0 0) Tryz.underlying27 (by kernel_rfl) rfl
theorem OwnL.bel1 {α : Type} {w w' : World} {base : Nat} {e : TypeId} {sz : Nat} {enc : α → List Value} {v : Value} {l : List α} (h : OwnL w base e sz enc v l) {B : Nat} (hb : Dr.Bel [B] w w') (hB : v.ownBlock ≠ some B) : OwnL w' base e sz enc v l := by
  refine h.kept (row := some B) ⟨hb.os, hb.tape, hb.output, hb.size, fun k hk hne => hb.block k hk (by simp; intro e; exact hne (by rw [e]))⟩ ?_
  cases hv : v.ownBlock with
  | none => exact .inl rfl
  | some k => right; rw [← hv]; exact hB
/-- a table in memory: all its blocks from lo on, below hi -/
def TabM (w : World) (lo hi : Nat) (v : Value) (T : List (List Int)) : Prop :=
  ∃ rs : List (Nat × Nat), OwnL w lo 23 1 encR v rs ∧ (∀ g, v.ownBlock = some g → g < hi) ∧ rs.length = T.length ∧
    ∀ i (h : i < rs.length) (h2 : i < T.length), lo ≤ rs[i].1 ∧ rs[i].1 < hi ∧ rs[i].2 = T[i].length ∧ Blk w rs[i].1 3 (T[i].map (Value.int .i64))
section
variable {w w' : World} {lo hi : Nat} {v : Value} {T : List (List Int)}
theorem TabM.nil : TabM w lo hi (.slice none 0 0) [] := ⟨[], OwnL.nil, fun g h => by simp [Value.ownBlock] at h, rfl, fun i h => by simp at h⟩
theorem TabM.bel (h : TabM w lo hi v T) {k : Nat} (hk : k < lo ∨ hi ≤ k) (hb : Dr.Bel [k] w w') : TabM w' lo hi v T := by
  obtain ⟨rs, h1, h2, h3, h4⟩ := h
  refine ⟨rs, OwnL.bel1 h1 hb (fun e => ?_), h2, h3, fun i a b => ?_⟩
  · have := h2 k e
    have := (h1.lt e).1
    omega
  · obtain ⟨c1, c2, c3, c4⟩ := h4 i a b
    exact ⟨c1, c2, c3, hb.blk c4 (by simp; omega)⟩
theorem TabM.ext (h : TabM w lo hi v T) (hb : Below w.heap.size w w') : TabM w' lo hi v T := by
  obtain ⟨rs, h1, h2, h3, h4⟩ := h
  exact ⟨rs, h1.ext hb, h2, h3, fun i a b => by
    obtain ⟨c1, c2, c3, c4⟩ := h4 i a b
    exact ⟨c1, c2, c3, c4.ext hb⟩⟩
theorem TabM.grow (h : TabM w lo hi v T) {lo' hi' : Nat} (h1 : lo' ≤ lo) (h2 : hi ≤ hi') : TabM w lo' hi' v T := by
  obtain ⟨rs, a1, a2, a3, a4⟩ := h
  exact ⟨rs, OwnL.up a1 h1, fun g hg => Nat.lt_of_lt_of_le (a2 g hg) h2, a3, fun i a b => by
    obtain ⟨c1, c2, c3, c4⟩ := a4 i a b
    exact ⟨Nat.le_trans h1 c1, Nat.lt_of_lt_of_le c2 h2, c3, c4⟩⟩
/-- one row more -/
theorem TabM.snoc {rs : List (Nat × Nat)} {row : List Int} {R g' cap : Nat} (hR : Blk w R 3 (row.map (Value.int .i64))) (hlo : lo ≤ R) (_hv2 : ∀ g, v.ownBlock = some g → g < hi) (h3 : rs.length = T.length)
    (h4 : ∀ i (h : i < rs.length) (h2 : i < T.length), lo ≤ rs[i].1 ∧ rs[i].1 < hi ∧ rs[i].2 = T[i].length ∧ Blk w rs[i].1 3 (T[i].map (Value.int .i64))) (h1 : OwnL w lo 23 1 encR v rs)
    (hn : OwnL w' lo 23 1 encR (.slice (some ⟨g', 0, none⟩) (rs.length + 1) cap) (rs ++ [(R, row.length)])) (hg : w.grownBy w' v.ownBlock) : TabM w' lo w'.heap.size (.slice (some ⟨g', 0, none⟩) (rs.length + 1) cap) (T ++ [row]) := by
  have hkeep : ∀ {b : Nat} {l : List Int}, Blk w b 3 (l.map (Value.int .i64)) → Blk w' b 3 (l.map (Value.int .i64)) := fun {b l} hb =>
    (hg.block b hb.lt (fun e => by
      have := own_ne h1 hb (by decide)
      rw [← e] at this
      simp at this)).trans hb
  refine ⟨rs ++ [(R, row.length)], hn, fun g hgv => (hn.lt hgv).2, by simp [h3], fun i a b => ?_⟩
  by_cases hi' : i < rs.length
  · obtain ⟨c1, c2, c3, c4⟩ := h4 i hi' (by omega)
    rw [List.getElem_append_left hi', List.getElem_append_left (by omega)]
    exact ⟨c1, Nat.lt_of_lt_of_le c4.lt hg.size, c3, hkeep c4⟩
  · have e : i = rs.length := by simp at a; omega
    subst e
    rw [List.getElem_append_right (Nat.le_refl _)]
    have e2 : (T ++ [row])[rs.length]'b = row := by
      rw [List.getElem_append_right (by omega)]
      simp [h3]
    rw [e2]
    simp only [Nat.sub_self, List.getElem_cons_zero]
    exact ⟨hlo, Nat.lt_of_lt_of_le hR.lt hg.size, by first | rfl | trivial, hkeep hR⟩
end
theorem own_neB {s : Sh} {w : World} {B n base : Nat} {e : TypeId} {sz : Nat} {α : Type} {enc : α → List Value} {v : Value} {l : List α} (h : OwnL w base e sz enc v l) (hm : MapG s w B n) : v.ownBlock ≠ some B := by
  rcases h.2 with ⟨rfl, -⟩ | ⟨g, cap, cur, rfl, -, hg, -⟩
  · simp [Value.ownBlock]
  · simp only [Value.ownBlock, ne_eq, Option.some.injEq]
    rintro rfl
    obtain ⟨D, hown, -⟩ := hm
    obtain ⟨es, ck, h1, -⟩ := hown
    rw [h1] at hg
    cases hg
/-- what the making of the table keeps -/
structure BtI (w1 : World) (s : Sh) (p : ShP) (F S G O B X0 : Nat) (sl : Value) (l : List Nat) (lo hi : Nat) (T : List (List Int)) (v : Value) (m : Nat) (W : World) : Prop where
  of : OfM w1 s p F S G O B W
  mp : MapG s W B m
  sb : Blk W X0 37 (shC s p)
  ord : OwnL W w1.heap.size 3 1 encI sl (toI l)
  olt : ∀ g, sl.ownBlock = some g → g < lo
  tab : TabM W lo hi v T
  hB : B < lo
  hX : X0 < B
  hlo : w1.heap.size ≤ lo
  hhi : lo ≤ hi ∧ hi ≤ W.heap.size
section
variable {w1 W W' : World} {s : Sh} {p : ShP} {F S G O B X0 : Nat} {sl : Value} {l : List Nat} {lo hi : Nat} {T : List (List Int)} {v : Value} {m : Nat}
theorem BtI.ext (h : BtI w1 s p F S G O B X0 sl l lo hi T v m W) (hb : Below W.heap.size W W') : BtI w1 s p F S G O B X0 sl l lo hi T v m W' :=
  ⟨h.of.ext hb, h.mp.ext hb, h.sb.ext hb, h.ord.ext hb, h.olt, h.tab.ext hb, h.hB, h.hX, h.hlo, h.hhi.1, Nat.le_trans h.hhi.2 hb.size⟩
theorem BtI.bel (h : BtI w1 s p F S G O B X0 sl l lo hi T v m W) (hb : Dr.Bel [B] W W') {m' : Nat} (hm : MapG s W' B m') : BtI w1 s p F S G O B X0 sl l lo hi T v m' W' :=
  ⟨h.of.bel hb, hm, hb.blk h.sb (by have := h.hX; simp; omega), OwnL.bel1 h.ord hb (own_neB h.ord h.mp), h.olt, h.tab.bel (.inl h.hB) hb, h.hB, h.hX, h.hlo, h.hhi.1, Nat.le_trans h.hhi.2 hb.size⟩
theorem BtI.put (h : BtI w1 s p F S G O B X0 sl l lo hi T v m W) {R : Nat} {cs : List Value} (hR : Blk W R 3 cs) (hlR : hi ≤ R) (i : Nat) (u : Value) : BtI w1 s p F S G O B X0 sl l lo hi T v m (W.setCell ⟨R, i, none⟩ u) := by
  have h1 := h.hhi.1
  have h2 := h.hB
  have h3 := h.hX
  have h4 := h.hlo
  have hbR : Dr.Bel [R] W (W.setCell ⟨R, i, none⟩ u) := Dr.Bel.store (by simp) u
  refine ⟨h.of.put (q := ⟨R, i, none⟩) (by simp; omega) (Blk.ne h.of.f hR (.inl (by decide))) (Blk.ne h.of.sb hR (.inl (by decide))) (Blk.ne h.of.g hR (.inl (by decide))) (Blk.ne h.of.o hR (.inl (by decide))) u,
    h.mp.set (by simp; omega) u, h.sb.other (by simp; omega) u, OwnL.bel1 h.ord hbR (fun e => by have := h.olt R e; omega), h.olt, h.tab.bel (.inr hlR) hbR, h.hB, h.hX, h.hlo, h.hhi.1, Nat.le_trans h.hhi.2 hbR.size⟩
theorem BtI.mono (h : BtI w1 s p F S G O B X0 sl l lo hi T v m W) {m' : Nat} (hm : m ≤ m') : BtI w1 s p F S G O B X0 sl l lo hi T v m' W :=
  ⟨h.of, h.mp.mono hm, h.sb, h.ord, h.olt, h.tab, h.hB, h.hX, h.hlo, h.hhi⟩
theorem BtI.app (h : BtI w1 s p F S G O B X0 sl l lo hi T v m W) {rs : List (Nat × Nat)} {row : List Int} {R g' cap : Nat} (hR : Blk W R 3 (row.map (Value.int .i64))) (hlR : lo ≤ R) (h2 : ∀ g, v.ownBlock = some g → g < hi) (h3 : rs.length = T.length)
    (h4 : ∀ i (h : i < rs.length) (h2 : i < T.length), lo ≤ rs[i].1 ∧ rs[i].1 < hi ∧ rs[i].2 = T[i].length ∧ Blk W rs[i].1 3 (T[i].map (Value.int .i64))) (h1 : OwnL W lo 23 1 encR v rs)
    (hn : OwnL W' lo 23 1 encR (.slice (some ⟨g', 0, none⟩) (rs.length + 1) cap) (rs ++ [(R, row.length)])) (hg : W.grownBy W' v.ownBlock) : BtI w1 s p F S G O B X0 sl l lo W'.heap.size (T ++ [row]) (.slice (some ⟨g', 0, none⟩) (rs.length + 1) cap) m W' := by
  have hbk : ∀ {A U : Nat} {cs : List Value}, Blk W A U cs → U ≠ 23 → Blk W' A U cs := fun {A U cs} hb hU => (hg.block A hb.lt (fun e => by
    have := own_ne h1 hb hU
    rw [← e] at this
    simp at this)).trans hb
  refine ⟨⟨below_grown h.of.bl h.of.bl.size hg (fun k hk => Nat.le_trans h.hlo (h1.lt hk).1), hbk h.of.f (by decide), hbk h.of.sb (by decide), hbk h.of.g (by decide), hbk h.of.o (by decide), h.of.hB, h.of.ne⟩,
    h.mp.kept hg (fun e => own_neB h1 h.mp e.symm), hbk h.sb (by decide), h.ord.kept hg ?_, h.olt, TabM.snoc hR hlR h2 h3 h4 h1 hn hg, h.hB, h.hX, h.hlo, Nat.le_trans h.hhi.1 (Nat.le_trans h.hhi.2 hg.size), Nat.le_refl _⟩
  cases hv : sl.ownBlock with
  | none => exact .inl rfl
  | some k => right; intro e; have := h.olt k hv; have := (h1.lt e.symm).1; omega
end
/-- a row of the table, up to a number -/
def rowTo (s : Sh) (t k : Nat) : List Int := tab (s.acts.length * s.acts.length) fun i => if i < k then s.cellV ⟨t, i / s.acts.length, i % s.acts.length⟩ else 0
theorem rowTo_len (s : Sh) (t k : Nat) : (rowTo s t k).length = s.acts.length * s.acts.length := tab_len _ _
theorem rowTo_zero (s : Sh) (t : Nat) : rowTo s t 0 = tab (s.acts.length * s.acts.length) fun _ => 0 := by unfold rowTo; congr 1
theorem rowTo_end (s : Sh) (t : Nat) : rowTo s t (s.acts.length * s.acts.length) = s.rowV t := by
  unfold rowTo Sh.rowV tab
  refine List.map_congr_left fun i hi => ?_
  rw [if_pos (by simpa using hi)]
theorem rowTo_hit {s : Sh} {t a b : Nat} (hb : b < s.acts.length) (hr : Sh.real ⟨t, a, b⟩ = true) : rowTo s t (a * s.acts.length + b + 1) = (rowTo s t (a * s.acts.length + b)).set (a * s.acts.length + b) (s.best ⟨t, a, b⟩) := by
  unfold rowTo
  rw [tab_set]
  congr 1
  funext i
  unfold upd
  by_cases h : i = a * s.acts.length + b
  · subst h
    rw [if_pos (by omega), if_pos rfl, Nat.mul_comm, Nat.mul_add_div (by omega), Nat.div_eq_of_lt hb, Nat.add_zero, Nat.mul_add_mod, Nat.mod_eq_of_lt hb]
    unfold Sh.cellV
    rw [if_pos hr]
  · rw [if_neg h]
    show (if _ then _ else _) = (if _ then _ else _)
    by_cases h2 : i < a * s.acts.length + b
    · rw [if_pos (by omega), if_pos h2]
    · rw [if_neg (by omega), if_neg h2]
theorem rowTo_miss {s : Sh} {t a b : Nat} (hb : b < s.acts.length) (hr : Sh.real ⟨t, a, b⟩ = false) : rowTo s t (a * s.acts.length + b + 1) = rowTo s t (a * s.acts.length + b) := by
  unfold rowTo
  congr 1
  funext i
  by_cases h : i = a * s.acts.length + b
  · subst h
    rw [if_pos (by omega), if_neg (by omega), Nat.mul_comm, Nat.mul_add_div (by omega), Nat.div_eq_of_lt hb, Nat.add_zero, Nat.mul_add_mod, Nat.mod_eq_of_lt hb]
    unfold Sh.cellV
    rw [if_neg (by rw [hr]; decide)]
  · by_cases h2 : i < a * s.acts.length + b
    · rw [if_pos (by omega), if_pos h2]
    · rw [if_neg (by omega), if_neg h2]
theorem idx_lt {n a b : Nat} (ha : a < n) (hb : b < n) : a * n + b < n * n := by
  have := Nat.mul_le_mul_right n (show a + 1 ≤ n from ha)
  rw [Nat.add_mul, Nat.one_mul] at this
  omega
theorem mk23n (n : Nat) (hn : n ≤ 1000000) (w : World) :
    (Instr.makeSlice 23 (.int .i64 (n : Int)) (.int .i64 (n : Int))).run Tryz.prog w = .ok (.slice (some ⟨w.heap.size, 0, none⟩) n n) (w.alloc (.cells ((tab n fun _ => 0).map (Value.int .i64)).toArray 3)) := by
  obtain ⟨i0, hi, hz0, hz1, hz2⟩ := info_parts info3
  have := run_mk Tryz.underlying23 hi hz0 hz1 hz2 (n : Int) (by omega) (by omega) w
  simpa using this
/-- what Best hands over -/
def BestR (w : World) (s : Sh) (v : Value) (W : World) : Prop := Below w.heap.size w W ∧
  ((s.okB = false ∧ v = .tuple #[.slice none 0 0, .int .i64 0, .slice none 0 0, .int .i64 1]) ∨
   (s.okB = true ∧ s.solve = none ∧ v = .tuple #[.slice none 0 0, .int .i64 0, .slice none 0 0, .int .i64 7]) ∨
   s.okB = true ∧ ∃ l sl tv hi, s.solve = some l ∧ OwnL W w.heap.size 3 1 encI sl (toI l) ∧ TabM W w.heap.size hi tv s.tabV ∧ v = .tuple #[sl, .int .i64 s.least, tv, .int .i64 0])
end Go.Proofs.YtcnidhcdkbfpcaaGreat

/- Walk: the best programme with its table. -/
namespace Go.Proofs.YtcnidhcdkbfpcaaGreat
open Go.RowKit Go.Bs Go.Pg Go.Pl Go.Sort
set_option maxRecDepth 100000 in
set_option maxHeartbeats 2000000 in
theorem Best_any (s : Sh) (p : ShP) (w : World) (h : ShM w s p) :
    Calls Tryz.prog 9 #[shV s p] w fun e w' => ∃ v, e = .returned v ∧ BestR w s v w' := by
  obtain ⟨U, hU, hall⟩ := Solve_any
  have hb0 := ext_alloc w (.cells (shC s p).toArray 37)
  have hS := Blk.new w 37 (shC s p)
  have CV := Lib.hid (fun W (hW : Below w.heap.size w W) => valid_any s p W (h.ext hW))
  have Hall := Lib.hid (fun (hok : s.Ok) W (hW : Below w.heap.size w W) => hall s p W (h.ext hW) hok)
  have Hok := Lib.hid (fun (e : s.okB = true) => Sh.ok_of e)
  have Hsh := Lib.hid h
  clear h hall
  unfold shV at *
  unfold shC at *
  go_enter Tryz.func9, Tryz.ntmps9
  go_upto_region 1 with fail
  have hs0 : (w.alloc (.cells #[.slice p.A s.acts.length p.cA, .slice p.R s.rest.length p.cR, .slice p.I s.ins.length p.cI, .slice p.O s.outs.length p.cO, .int .i64 s.cover, .int .i64 s.dull, .slice p.B s.before.length p.cB] 37)).heap.size = w.heap.size + 1 := by simp
  change Blk (w.alloc (.cells #[.slice p.A s.acts.length p.cA, .slice p.R s.rest.length p.cR, .slice p.I s.ins.length p.cI, .slice p.O s.outs.length p.cO, .int .i64 s.cover, .int .i64 s.dull, .slice p.B s.before.length p.cB] 37)) _ _ _ at hS
  generalize w.alloc (.cells #[.slice p.A s.acts.length p.cA, .slice p.R s.rest.length p.cR, .slice p.I s.ins.length p.cI, .slice p.O s.outs.length p.cO, .int .i64 s.cover, .int .i64 s.dull, .slice p.B s.before.length p.cB] 37) = V0 at *
  have q0 : V0.cell? ⟨w.heap.size, 0, none⟩ = _ := hS.cell (i := 0) rfl
  have q1 : V0.cell? ⟨w.heap.size, 1, none⟩ = _ := hS.cell (i := 1) rfl
  have q2 : V0.cell? ⟨w.heap.size, 2, none⟩ = _ := hS.cell (i := 2) rfl
  have q3 : V0.cell? ⟨w.heap.size, 3, none⟩ = _ := hS.cell (i := 3) rfl
  have q4 : V0.cell? ⟨w.heap.size, 4, none⟩ = _ := hS.cell (i := 4) rfl
  have q5 : V0.cell? ⟨w.heap.size, 5, none⟩ = _ := hS.cell (i := 5) rfl
  have q6 : V0.cell? ⟨w.heap.size, 6, none⟩ = _ := hS.cell (i := 6) rfl
  have Hs0 := Lib.hid hs0
  clear hs0
  cases hkb : s.okB
  · go_wp2_with fail
    refine (CV.out V0 hb0).mono ?_; rintro e V1 ⟨rfl, hx1⟩
    rw [hkb]
    have hb1 := hb0.trans (hx1.mono hb0.size)
    have Hkb := Lib.hid hkb
    clear hkb
    go_wp2
    refine bodyPost_ret (v := .tuple #[.slice none 0 0, .int .i64 0, .slice none 0 0, .int .i64 1]) (by simp [results, Tryz.results9, go_sem]) rfl ?_
    exact ⟨_, rfl, hb1, .inl ⟨Hkb.out, rfl⟩⟩
  · go_wp2_with fail
    refine (CV.out V0 hb0).mono ?_; rintro e V1 ⟨rfl, hx1⟩
    rw [hkb]
    have hok := Hok.out hkb
    have Hkb := Lib.hid hkb
    clear hkb
    have hb1 := hb0.trans (hx1.mono hb0.size)
    have hS1 := hS.ext hx1
    clear q0 q1 q2 q3 q4 q5 q6 hb0 hS
    have q0 : V1.cell? ⟨w.heap.size, 0, none⟩ = _ := hS1.cell (i := 0) rfl
    have q1 : V1.cell? ⟨w.heap.size, 1, none⟩ = _ := hS1.cell (i := 1) rfl
    have q2 : V1.cell? ⟨w.heap.size, 2, none⟩ = _ := hS1.cell (i := 2) rfl
    have q3 : V1.cell? ⟨w.heap.size, 3, none⟩ = _ := hS1.cell (i := 3) rfl
    have q4 : V1.cell? ⟨w.heap.size, 4, none⟩ = _ := hS1.cell (i := 4) rfl
    have q5 : V1.cell? ⟨w.heap.size, 5, none⟩ = _ := hS1.cell (i := 5) rfl
    have q6 : V1.cell? ⟨w.heap.size, 6, none⟩ = _ := hS1.cell (i := 6) rfl
    have CS := Lib.hid (Hall.out hok V1 hb1).1
    have Hof := Lib.hid (Hall.out hok V1 hb1).2
    have Hok2 := Lib.hid hok
    have hz1 : w.heap.size < V1.heap.size := hS1.lt
    clear Hall Hok hok CV hx1
    go_upto_region 3 with fail
    go_wp2_with fail
    refine CS.out.mono ?_; rintro e V2 ⟨v, rfl, F, S, G, O, B, n0, hof, hm, hn0, hc⟩
    rcases hc with ⟨hnone, rfl⟩ | ⟨l, sl, hsome, hown, rfl⟩
    · unfold ofV
      have Hn := Lib.hid hnone
      clear hnone
      go_wp2
      refine bodyPost_ret (v := .tuple #[.slice none 0 0, .int .i64 0, .slice none 0 0, .int .i64 7]) (by simp [results, Tryz.results9, go_sem]) rfl ?_
      exact ⟨_, rfl, hb1.trans (hof.bl.mono hb1.size), .inr (.inl ⟨Hkb.out, Hn.out, rfl⟩)⟩
    · unfold ofV
      have Hsome := Lib.hid hsome
      have hS2 : Blk V2 w.heap.size 37 _ := (hof.bl.block _ hS1.lt).trans hS1
      have Hof2 := Lib.hid (fun z hz => Hof.out V1 F S G O B (Hsh.out.ext hb1) z hz)
      clear hsome q0 q1 q2 q3 q4 q5 q6 hS1 CS Hof
      have hBz := hof.hB
      have hBl := hm.lt
      have Hst := Lib.hid (show BtI V1 s p F S G O B w.heap.size sl l V2.heap.size V2.heap.size [] (.slice none 0 0) (200 * U + 0 * (64 * U)) V2 from
        ⟨hof, hm.mono (by omega), hS2, hown, fun g hg => (hown.lt hg).2, TabM.nil, hBl, by omega, hof.bl.size, Nat.le_refl _, Nat.le_refl _⟩)
      have hn8 := Hok2.out.n8
      have CW := Lib.hid (fun W => whole_any s p W hn8)
      unfold shV at CW
      have q0 : V2.cell? ⟨w.heap.size, 0, none⟩ = _ := hS2.cell (i := 0) rfl
      have q1 : V2.cell? ⟨w.heap.size, 1, none⟩ = _ := hS2.cell (i := 1) rfl
      have q2 : V2.cell? ⟨w.heap.size, 2, none⟩ = _ := hS2.cell (i := 2) rfl
      have q3 : V2.cell? ⟨w.heap.size, 3, none⟩ = _ := hS2.cell (i := 3) rfl
      have q4 : V2.cell? ⟨w.heap.size, 4, none⟩ = _ := hS2.cell (i := 4) rfl
      have q5 : V2.cell? ⟨w.heap.size, 5, none⟩ = _ := hS2.cell (i := 5) rfl
      have q6 : V2.cell? ⟨w.heap.size, 6, none⟩ = _ := hS2.cell (i := 6) rfl
      have hl2 := hof.bl.size
      have hb2 := hb1.trans (hof.bl.mono hb1.size)
      generalize V2.heap.size = lo at *
      have hwh : s.whole ≤ 255 := by
        unfold Sh.whole
        have := Nat.pow_le_pow_right (n := 2) (by omega) hn8
        omega
      generalize hWh : s.whole = wh at *
      clear hof hm hown hS2
      go_upto_region 7 with fail
      go_wp2_with fail
      refine (CW.out V2).mono ?_; rintro e V3 ⟨rfl, hx3⟩
      have HI := Lib.hid (Hst.out.ext hx3)
      clear q0 q1 q2 q3 q4 q5 q6 Hst hx3 CW
      have hmk := fun W => mk23n (s.acts.length * s.acts.length) (Nat.le_trans (Nat.mul_le_mul hn8 hn8) (by decide)) W
      rw [Int.natCast_mul] at hmk
      have hnn : 0 ≤ (s.acts.length : Int) * s.acts.length ∧ (s.acts.length : Int) * s.acts.length ≤ 64 := by
        have := Nat.mul_le_mul hn8 hn8
        rw [← Int.natCast_mul]
        omega
      have HU := Lib.hid hU
      clear hU
      go_wp2
      go_loopw [4, 33] (fun v t wr => ∃ (k hi : Nat), t = .int .i64 k ∧ k ≤ wh + 1 ∧ BtI V1 s p F S G O B w.heap.size sl l lo hi ((List.range k).map s.rowV) v (200 * U + k * (64 * U)) wr) (fun _ t _ => wh + 1 - (intOf t).toNat)
      case atStart => exact ⟨0, _, rfl, by omega, HI.out⟩
      case round =>
        obtain ⟨k, hi, rfl, hk, hB⟩ := hrel
        by_cases hlt : k < wh + 1
        · have hlt' : (k : Int) < (wh : Int) + 1 := by omega
          go_upto_region 10 with fail
          go_upto_region 11 with fail
          have hR := Blk.new wr 3 ((tab (s.acts.length * s.acts.length) fun _ => 0).map (Value.int .i64))
          have hBa := hB.ext (ext_alloc wr (.cells ((tab (s.acts.length * s.acts.length) fun _ => 0).map (Value.int .i64)).toArray 3))
          have hRz : hi ≤ wr.heap.size := hB.hhi.2
          generalize wr.alloc (.cells ((tab (s.acts.length * s.acts.length) fun _ => 0).map (Value.int .i64)).toArray 3) = W1 at *
          rw [← rowTo_zero s k] at hR
          clear hB
          generalize wr.heap.size = R at *
          have Ha0 := Lib.hid (And.intro hBa hR)
          have Hmk := Lib.hid hmk
          clear hBa hR hmk
          have hkw : IntKind.u16.wrap (k : Int) = k := by rw [IntKind.wrap_u16]; omega
          have hk0 : (0 : Int) ≤ k := by omega
          go_wp2
          go_loopw [41] (fun t wa => ∃ a : Nat, t = .int .i64 a ∧ a ≤ s.acts.length ∧ BtI V1 s p F S G O B w.heap.size sl l lo hi ((List.range k).map s.rowV) u4 (200 * U + k * (64 * U) + a * (8 * U)) wa ∧ Blk wa R 3 ((rowTo s k (a * s.acts.length)).map (Value.int .i64))) (fun t _ => s.acts.length - (intOf t).toNat)
          case atStart => exact ⟨0, rfl, by omega, by rw [Nat.zero_mul, Nat.add_zero]; exact Ha0.out.1, by rw [Nat.zero_mul]; exact Ha0.out.2⟩
          case round =>
            obtain ⟨a, rfl, ha, hBr, hRr⟩ := hrel
            by_cases hlta : a < s.acts.length
            · have hlta' : (a : Int) < (s.acts.length : Int) := by omega
              have Hb0 := Lib.hid (And.intro hBr hRr)
              clear hBr hRr
              generalize wr = w4 at *
              go_upto_region 14 with fail
              go_wp2
              go_loopw [45] (fun t wb => ∃ b : Nat, t = .int .i64 b ∧ b ≤ s.acts.length ∧ BtI V1 s p F S G O B w.heap.size sl l lo hi ((List.range k).map s.rowV) u4 (200 * U + k * (64 * U) + a * (8 * U) + b * U) wb ∧ Blk wb R 3 ((rowTo s k (a * s.acts.length + b)).map (Value.int .i64))) (fun t _ => s.acts.length - (intOf t).toNat)
              case atStart => exact ⟨0, rfl, by omega, by rw [Nat.zero_mul, Nat.add_zero]; exact Hb0.out.1, Hb0.out.2⟩
              case round =>
                obtain ⟨b, rfl, hb, hBs, hRs⟩ := hrel
                by_cases hltb : b < s.acts.length
                · have hltb' : (b : Int) < (s.acts.length : Int) := by omega
                  go_upto_region 18 with fail
                  have hY := Blk.new wr 65 [.int .u16 k, .int .i64 a, .int .i64 b]
                  have hBy := hBs.ext (ext_alloc wr (.cells #[.int .u16 k, .int .i64 a, .int .i64 b] 65))
                  have hRy := hRs.ext (ext_alloc wr (.cells #[.int .u16 k, .int .i64 a, .int .i64 b] 65))
                  change Blk (wr.alloc (.cells #[.int .u16 k, .int .i64 a, .int .i64 b] 65)) _ _ _ at hY
                  generalize wr.alloc (.cells #[.int .u16 k, .int .i64 a, .int .i64 b] 65) = W5 at *
                  have y0 : W5.cell? ⟨wr.heap.size, 0, none⟩ = _ := hY.cell (i := 0) rfl
                  have y1 : W5.cell? ⟨wr.heap.size, 1, none⟩ = _ := hY.cell (i := 1) rfl
                  have y2 : W5.cell? ⟨wr.heap.size, 2, none⟩ = _ := hY.cell (i := 2) rfl
                  have hx : StOk s ⟨k, a, b⟩ := ⟨by show k < _; unfold Sh.whole at hWh; have := Nat.two_pow_pos s.acts.length; omega, hlta, hltb⟩
                  have CR := Lib.hid (real_any s ⟨k, a, b⟩ W5 hx Hok2.out)
                  have CO := Lib.hid (Hof2.out _ hx)
                  unfold OfC at CO
                  unfold St.val at CR CO
                  have hab := idx_lt hlta hltb
                  have hrl := rowTo_len s k (a * s.acts.length + b)
                  have haq := Nat.mul_le_mul (show a ≤ 8 by omega) hn8
                  have hmo : (b + 1) * U = b * U + U := by rw [Nat.add_mul, Nat.one_mul]
                  have hbx := Sh.best_bd Hok2.out ⟨k, a, b⟩
                  have hbound : 200 * U + k * (64 * U) + a * (8 * U) + b * U + U ≤ 1000000000000000000 := by
                    have e1 : k * (64 * U) ≤ 255 * (64 * U) := Nat.mul_le_mul_right _ (by omega)
                    have e2 : a * (8 * U) ≤ 8 * (8 * U) := Nat.mul_le_mul_right _ (by omega)
                    have e3 : b * U ≤ 8 * U := Nat.mul_le_mul_right _ (by omega)
                    have := HU.out
                    omega
                  clear hBs hRs hY hx
                  cases hr : Sh.real ⟨k, a, b⟩
                  · have Hmiss := Lib.hid (rowTo_miss hltb hr)
                    go_wp2_with fail
                    refine CR.out.mono ?_; rintro e W6 ⟨rfl, hx6⟩
                    rw [hr]
                    clear hr
                    go_wp2
                    go_roundw
                    case rel => exact ⟨b + 1, by go_num, by omega, (hBy.ext hx6).mono (by omega), by rw [show a * s.acts.length + (b + 1) = a * s.acts.length + b + 1 by omega, Hmiss.out]; exact hRy.ext hx6⟩
                    case measure => simp [intOf]; omega
                  · have Hhit := Lib.hid (rowTo_hit hltb hr)
                    go_wp2_with fail
                    refine CR.out.mono ?_; rintro e W6 ⟨rfl, hx6⟩
                    rw [hr]
                    clear hr
                    have hB6 := hBy.ext hx6
                    have hR6 := hRy.ext hx6
                    have z0 := cell_ext y0 hx6
                    have z1 := cell_ext y1 hx6
                    have z2 := cell_ext y2 hx6
                    clear y0 y1 y2 hBy hRy hx6
                    obtain ⟨q, hq⟩ : ∃ q : Nat, q = a * s.acts.length := ⟨_, rfl⟩
                    have hqi : (a : Int) * (s.acts.length : Int) = (q : Int) := by rw [hq, Int.natCast_mul]
                    rw [← hq] at hab haq hR6 Hhit
                    have hqn : q + b < s.acts.length * s.acts.length := hab
                    have hqm : (q : Int) + (b : Int) < (s.acts.length : Int) * (s.acts.length : Int) := by rw [← Int.natCast_mul]; omega
                    have Hq := Lib.hid hq
                    clear hq
                    go_upto_region 19 with fail
                    go_wp2_with fail
                    refine (CO.out _ W6 hB6.of hB6.mp hbound).mono ?_; rintro e W7 ⟨rfl, hx7, hm7⟩
                    have hB7 := hB6.bel hx7 hm7
                    have hR7 := hx7.blk hR6 (by have := hB6.hB; have := hB6.hhi; simp; omega)
                    have f0 := hR7.free (q + b)
                    have c0 : W7.cell? ⟨R, q + b, none⟩ = some (.int .i64 ((rowTo s k (q + b))[q + b]'(by rw [← Hq.out] at hrl; omega))) := hR7.cell (by simp)
                    clear hB6 hR6 z0 z1 z2 hx7 hm7
                    go_wp2
                    go_roundw
                    case rel => exact ⟨b + 1, by go_num, by omega, (hB7.put hR7 hRz (q + b) _).mono (by omega), by
                      rw [← Hq.out, show q + (b + 1) = q + b + 1 by omega, Hhit.out, List.map_set]
                      exact hR7.set (q + b) _⟩
                    case measure => simp [intOf]; omega
                · obtain rfl : b = s.acts.length := by omega
                  have hbU : s.acts.length * U ≤ 8 * U := Nat.mul_le_mul_right _ hn8
                  have haU : (a + 1) * (8 * U) = a * (8 * U) + 8 * U := by rw [Nat.add_mul, Nat.one_mul]
                  have hBs2 := Lib.hid (hBs.mono (m' := 200 * U + k * (64 * U) + (a + 1) * (8 * U)) (by omega))
                  have hRs2 := Lib.hid (show Blk wr R 3 ((rowTo s k ((a + 1) * s.acts.length)).map (Value.int .i64)) by rw [Nat.add_mul, Nat.one_mul]; exact hRs)
                  clear hBs hRs hbU haU
                  go_wp2
                  go_roundw
                  case rel => exact ⟨a + 1, by go_num, by omega, hBs2.out, hRs2.out⟩
                  case measure => simp [intOf]; omega
            · obtain rfl : a = s.acts.length := by omega
              have hkU : (k + 1) * (64 * U) = k * (64 * U) + 64 * U := by rw [Nat.add_mul, Nat.one_mul]
              have hnU : s.acts.length * (8 * U) ≤ 8 * (8 * U) := Nat.mul_le_mul_right _ hn8
              have hBr2 := hBr.mono (m' := 200 * U + (k + 1) * (64 * U)) (by omega)
              rw [rowTo_end] at hRr
              have hsnoc : (List.range k).map s.rowV ++ [s.rowV k] = (List.range (k + 1)).map s.rowV := by rw [List.range_succ, List.map_append]; rfl
              have Hsn := Lib.hid hsnoc
              have hB9 := hBr2.ext (ext_alloc wr (.cells #[.slice (some ⟨R, 0, none⟩) (s.acts.length * s.acts.length) (s.acts.length * s.acts.length)] 23))
              have hR9 := hRr.ext (ext_alloc wr (.cells #[.slice (some ⟨R, 0, none⟩) (s.acts.length * s.acts.length) (s.acts.length * s.acts.length)] 23))
              have hnew := Blk.new wr 23 [.slice (some ⟨R, 0, none⟩) (s.acts.length * s.acts.length) (s.acts.length * s.acts.length)]
              obtain ⟨rs, h1, h2, h3, h4⟩ := hB9.tab
              have hrl : (s.rowV k).length = s.acts.length * s.acts.length := by unfold Sh.rowV; simp
              have hlr := hBr.hhi
              have h3k : rs.length = k := by rw [h3]; simp
              have Hb9 := Lib.hid hB9
              have Hp := Lib.hid (And.intro h2 (And.intro h3 h4))
              have Hrl := Lib.hid hrl
              clear hBr hBr2 hRr hsnoc hkU hnU hB9 h2 h3 h4 hrl Ha0
              have H3k := Lib.hid h3k
              have hrs6 : rs.length ≤ 1000000 := by omega
              clear h3k
              go_upto_region 22 with fail
              go_wp2_with (at_builtin; refine app1 encR 27 23 1 24 et29 (by decide) (by decide) encR_len encR_one rfl _ _ rfl lo _ rs rfl h1 wr.heap.size rfl (R, s.acts.length * s.acts.length) (fun j u hj => hnew.cell hj) (by omega) (by simp; omega) ?_; intro g' cap' V9 hown' hb7 hgr7 hat7; have HF := Lib.hid (Hb9.out.app hR9 (by omega) Hp.out.1 Hp.out.2.1 Hp.out.2.2 h1 (by rw [Hrl.out]; exact hown') hgr7))
              go_roundw
              case rel => exact ⟨k + 1, _, by go_num, by omega, by rw [← Hsn.out]; exact HF.out⟩
              case measure => simp [intOf]; omega
        · obtain rfl : k = wh + 1 := by omega
          go_wp2
          refine bodyPost_ret (v := .tuple #[sl, .int .i64 s.least, u4, .int .i64 0]) (by simp [results, Tryz.results9, go_sem]) rfl ?_
          have hlo := hB.hlo
          exact ⟨_, rfl, hb1.trans (hB.of.bl.mono hb1.size), .inr (.inr ⟨Hkb.out, l, sl, u4, hi, Hsome.out, OwnL.up hB.ord (by omega), by unfold Sh.tabV; rw [hWh]; exact hB.tab.grow (by omega) (Nat.le_refl _), rfl⟩)⟩
end Go.Proofs.YtcnidhcdkbfpcaaGreat

/- Walk: Run, of the reference. -/
import Derived.Test.YtnjdlhhgnamigaaGreatRefX
namespace Go.Proofs.YtnjdlhhgnamigaaGreat
open Go.RowKit Go.Bs Go.Pu Go.Pl Go.Sort
/-- the rows of a ledger lie apart from a block -/
structure LedOff (P : Nat) (A : Option Addr) (n : Nat) (B : Option Addr) (m : Nat) (D : Option Addr) (q : Nat) : Prop where
  a : 0 < n → A.map (·.block) ≠ some P
  b : 0 < m → B.map (·.block) ≠ some P
  d : 0 < q → D.map (·.block) ≠ some P
theorem LedM.off {w : World} {l : Led} {A : Option Addr} {n : Nat} {B : Option Addr} {m : Nat} {D : Option Addr} {q : Nat} {P : Nat} (h : LedM w l A n B m D q) (hP : w.heap.size ≤ P) : LedOff P A n B m D q := by
  refine ⟨fun h0 e => ?_, fun h0 e => ?_, fun h0 e => ?_⟩
  · obtain ⟨b, off, e2, hlt, -⟩ := h.a.at1 (k := 0) (by rw [h.hn]; exact h0) rfl
    subst e2; simp at e; omega
  · obtain ⟨b, off, e2, hlt, -⟩ := h.b.at6 (k := 0) (by rw [h.hm]; exact h0) rfl
    subst e2; simp at e; omega
  · obtain ⟨b, off, e2, hlt, -⟩ := h.d.at3 (k := 0) (by rw [h.hq]; exact h0) rfl
    subst e2; simp at e; omega
theorem LedM.bel1 {w w' : World} {l : Led} {A : Option Addr} {n : Nat} {B : Option Addr} {m : Nat} {D : Option Addr} {q : Nat} {P : Nat} (h : LedM w l A n B m D q) (ho : LedOff P A n B m D q) (hb : Dr.Bel [P] w w') : LedM w' l A n B m D q := by
  have key : ∀ {α : Type} (X : Option Addr) (sz : Nat) (enc : α → List Value) (li : List α) (k : Nat), li.length = k → Cells w X sz enc li → (0 < k → X.map (·.block) ≠ some P) → Cells w' X sz enc li := by
    intro α X sz enc li k hk hc h0
    by_cases hz : 0 < k
    · exact cells_bel hc hb (fun z hz2 hm => by simp at hm; subst hm; exact h0 hz hz2)
    · obtain rfl : li = [] := List.length_eq_zero_iff.1 (by omega)
      exact Cells.nil
  exact ⟨h.hn, h.hm, h.hq, h.n9, h.m9, h.q9, key A 1 encI _ n h.hn h.a ho.a, key B 6 Bag.enc _ m h.hm h.b ho.b, key D 3 Dif.enc _ q h.hq h.d ho.d⟩
theorem LedM.kept {w w' : World} {l : Led} {A : Option Addr} {n : Nat} {B : Option Addr} {m : Nat} {D : Option Addr} {q : Nat} {row : Option Nat} (h : LedM w l A n B m D q) (hg : w.grownBy w' row) (ho : ∀ g, row = some g → LedOff g A n B m D q) : LedM w' l A n B m D q := by
  have key : ∀ {α : Type} (X : Option Addr) (sz : Nat) (enc : α → List Value) (li : List α) (k : Nat), li.length = k → Cells w X sz enc li → (∀ g, row = some g → 0 < k → X.map (·.block) ≠ some g) → Cells w' X sz enc li := by
    intro α X sz enc li k hk hc h0
    by_cases hz : 0 < k
    · exact hc.keep (fun p hp hq => by rw [World.cell?_of_block (hg.block p.block hp (fun e => h0 _ e.symm hz hq))])
    · obtain rfl : li = [] := List.length_eq_zero_iff.1 (by omega)
      exact Cells.nil
  exact ⟨h.hn, h.hm, h.hq, h.n9, h.m9, h.q9, key A 1 encI _ n h.hn h.a (fun g e => (ho g e).a), key B 6 Bag.enc _ m h.hm h.b (fun g e => (ho g e).b), key D 3 Dif.enc _ q h.hq h.d (fun g e => (ho g e).d)⟩
/-- a ledger in a box of the reference; its rows apart from the box and from a row that grows -/
def BoxR (w : World) (P : Nat) (v : Value) (s : Led) : Prop := ∃ A n c B m d D q e, Blk w P 26 [.slice A n c, .slice B m d, .int .i64 s.office, .int .i64 s.bank, .int .i64 s.begun, .int .i64 s.inn, .int .i64 s.out, .slice D q e] ∧ LedM w s A n B m D q ∧ LedOff P A n B m D q ∧ LedOff (P + 1) A n B m D q ∧ ∀ g, v.ownBlock = some g → LedOff g A n B m D q
theorem BoxR.ext {w w' : World} {P : Nat} {v : Value} {s : Led} (h : BoxR w P v s) (hb : Below w.heap.size w w') : BoxR w' P v s := by
  obtain ⟨A, n, c, B, m, d, D, q, e, h1, h2, h3, h4, h5⟩ := h
  exact ⟨A, n, c, B, m, d, D, q, e, h1.ext hb, h2.ext hb, h3, h4, h5⟩
set_option maxRecDepth 100000 in
set_option maxHeartbeats 8000000 in
theorem RunRef_any (l : Led) (acts : List Pu.Act) (A : Option Addr) (n c : Nat) (B : Option Addr) (m d : Nat) (D : Option Addr) (q e : Nat) (Z : Option Addr) (k kc : Nat) (w : World) (hL : LedM w l A n B m D q) (hmon : l.mon) (hq : q + k ≤ 900) (hk : acts.length = k) (hZ : Cells w Z 6 Act.enc acts) :
    Calls Tryz.prog 13 #[ledV A n c B m d l.office l.bank l.begun l.inn l.out D q e, .slice Z k kc] w fun r w' => ∃ v u, r = .returned (.tuple #[v, u]) ∧ LedAt w' v (runL l acts).1 ∧ FreshL w w' 1 encI u (runL l acts).2 ∧ Below w.heap.size w w' := by
  have hb0 : Below w.heap.size w ((w.alloc (.cells #[.slice A n c, .slice B m d, .int .i64 l.office, .int .i64 l.bank, .int .i64 l.begun, .int .i64 l.inn, .int .i64 l.out, .slice D q e] 26)).alloc (.cells #[.slice none 0 0, .slice none 0 0, .int .i64 0, .int .i64 0, .int .i64 0, .int .i64 0, .int .i64 0, .slice none 0 0] 26)) := ((Below.refl _ _).alloc (Nat.le_refl _) _).alloc (by simp) _
  have hX := (Blk.new w 26 [.slice A n c, .slice B m d, .int .i64 l.office, .int .i64 l.bank, .int .i64 l.begun, .int .i64 l.inn, .int .i64 l.out, .slice D q e]).alloc (.cells #[.slice none 0 0, .slice none 0 0, .int .i64 0, .int .i64 0, .int .i64 0, .int .i64 0, .int .i64 0, .slice none 0 0] 26)
  have hR := Blk.new (w.alloc (.cells #[.slice A n c, .slice B m d, .int .i64 l.office, .int .i64 l.bank, .int .i64 l.begun, .int .i64 l.inn, .int .i64 l.out, .slice D q e] 26)) 26 [.slice none 0 0, .slice none 0 0, .int .i64 0, .int .i64 0, .int .i64 0, .int .i64 0, .int .i64 0, .slice none 0 0]
  have hsz : ((w.alloc (.cells #[.slice A n c, .slice B m d, .int .i64 l.office, .int .i64 l.bank, .int .i64 l.begun, .int .i64 l.inn, .int .i64 l.out, .slice D q e] 26)).alloc (.cells #[.slice none 0 0, .slice none 0 0, .int .i64 0, .int .i64 0, .int .i64 0, .int .i64 0, .int .i64 0, .slice none 0 0] 26)).heap.size = w.heap.size + 2 := by simp
  simp only [World.size_alloc] at hR
  have hL0 := hL.ext hb0
  have hof := hL.off (Nat.le_refl _)
  have hof2 := hL.off (P := w.heap.size + 1) (by omega)
  have HZ := Lib.hid (fun W (hb : Below w.heap.size w W) => hZ.ext hb)
  have Hk := Lib.hid hk
  have Hst := Lib.hid (fun j => runL_mon (acts.take j) hmon)
  have Hdf := Lib.hid (fun j => runL_difs (acts.take j) l)
  have Hln := Lib.hid (fun j => runL_len (acts.take j) l)
  rw [hL.hq] at Hdf
  unfold ledV
  clear hL hmon hZ hk
  go_enter Tryz.func13, Tryz.ntmps13
  go_upto_region 1 with fail
  change Blk ((w.alloc (.cells #[.slice A n c, .slice B m d, .int .i64 l.office, .int .i64 l.bank, .int .i64 l.begun, .int .i64 l.inn, .int .i64 l.out, .slice D q e] 26)).alloc (.cells #[.slice none 0 0, .slice none 0 0, .int .i64 0, .int .i64 0, .int .i64 0, .int .i64 0, .int .i64 0, .slice none 0 0] 26)) _ _ _ at hX
  change Blk ((w.alloc (.cells #[.slice A n c, .slice B m d, .int .i64 l.office, .int .i64 l.bank, .int .i64 l.begun, .int .i64 l.inn, .int .i64 l.out, .slice D q e] 26)).alloc (.cells #[.slice none 0 0, .slice none 0 0, .int .i64 0, .int .i64 0, .int .i64 0, .int .i64 0, .int .i64 0, .slice none 0 0] 26)) _ _ _ at hR
  change Below w.heap.size w ((w.alloc (.cells #[.slice A n c, .slice B m d, .int .i64 l.office, .int .i64 l.bank, .int .i64 l.begun, .int .i64 l.inn, .int .i64 l.out, .slice D q e] 26)).alloc (.cells #[.slice none 0 0, .slice none 0 0, .int .i64 0, .int .i64 0, .int .i64 0, .int .i64 0, .int .i64 0, .slice none 0 0] 26)) at hb0
  change ((w.alloc (.cells #[.slice A n c, .slice B m d, .int .i64 l.office, .int .i64 l.bank, .int .i64 l.begun, .int .i64 l.inn, .int .i64 l.out, .slice D q e] 26)).alloc (.cells #[.slice none 0 0, .slice none 0 0, .int .i64 0, .int .i64 0, .int .i64 0, .int .i64 0, .int .i64 0, .slice none 0 0] 26)).heap.size = _ at hsz
  change LedM ((w.alloc (.cells #[.slice A n c, .slice B m d, .int .i64 l.office, .int .i64 l.bank, .int .i64 l.begun, .int .i64 l.inn, .int .i64 l.out, .slice D q e] 26)).alloc (.cells #[.slice none 0 0, .slice none 0 0, .int .i64 0, .int .i64 0, .int .i64 0, .int .i64 0, .int .i64 0, .slice none 0 0] 26)) _ _ _ _ _ _ _ at hL0
  generalize ((w.alloc (.cells #[.slice A n c, .slice B m d, .int .i64 l.office, .int .i64 l.bank, .int .i64 l.begun, .int .i64 l.inn, .int .i64 l.out, .slice D q e] 26)).alloc (.cells #[.slice none 0 0, .slice none 0 0, .int .i64 0, .int .i64 0, .int .i64 0, .int .i64 0, .int .i64 0, .slice none 0 0] 26)) = W0 at *
  have hbox : BoxR W0 w.heap.size (.slice none 0 0) (runL l (acts.take 0)).1 := ⟨A, n, c, B, m, d, D, q, e, by simpa [runL] using hX, by simpa [runL] using hL0, hof, hof2, fun g h => by cases h⟩
  clear hX hL0 hof hof2
  go_wp2
  go_loopw [6, 7, 8, 9] (fun y x _ _ wr => ∃ (j : Nat) (v : Value), v = y ∧ x = .int .i64 j ∧ j ≤ k ∧ BoxR wr w.heap.size v (runL l (acts.take j)).1 ∧ OwnL wr W0.heap.size 3 1 encI v (runL l (acts.take j)).2 ∧ Dr.Bel [w.heap.size] W0 wr) (fun _ x _ _ _ => k - (intOf x).toNat)
  case atStart => exact ⟨0, _, rfl, rfl, by omega, hbox, by simpa [runL] using OwnL.nil, Dr.Bel.refl _ _⟩
  case round =>
    clear hbox
    obtain ⟨j, v, rfl, rfl, hj, hbox, hown, hb⟩ := hrel
    have hbw := hb0.trans (hb.old (n := w.heap.size) (by omega) (by simp))
    have hRr := hb.blk hR (by simp)
    have hsr := hb.size
    by_cases hlt : j < k
    · have hlt' : (j : Int) < (k : Int) := by omega
      have hjl : j < acts.length := by rw [Hk.out]; exact hlt
      have HA := Lib.hid (fun W hW => (HZ.out W hW).at6 hjl rfl)
      have hsn := runL_snoc acts[j] (acts.take j) l
      rw [← List.take_succ_eq_append_getElem hjl] at hsn
      have hst := Hst.out j
      have hdf := Hdf.out j
      have hln := Hln.out j
      rw [List.length_take] at hdf hln
      obtain ⟨zb, zo, rfl, -, -⟩ := HA.out _ hbw
      generalize acts[j] = x at *
      obtain ⟨a0, a1, a2, a3, a4, a5⟩ := x
      simp only at HA
      generalize runL l (acts.take j) = sr at *
      obtain ⟨st, es⟩ := sr
      simp only at hst hdf hln hbox hown hsn
      have hel : es.length ≤ 900 := by omega
      have Hsn := Lib.hid hsn
      clear hsn
      obtain ⟨A1, n1, c1, B1, m1, d1, D1, q1, e1, hP, hL, hof, hof2, hog⟩ := hbox
      have CD := Lib.hid (fun W h => DoR_any st ⟨a0, a1, a2, a3, a4, a5⟩ A1 n1 c1 B1 m1 d1 D1 q1 e1 W h hst (by have := hL.hq; omega))
      generalize doL st ⟨a0, a1, a2, a3, a4, a5⟩ = nx at *
      obtain ⟨nx, code⟩ := nx
      simp only at CD Hsn
      unfold ledV Act.val at CD
      clear hst hdf hln hjl
      have hgv : ∀ g, v.ownBlock = some g → W0.heap.size ≤ g ∧ g < wr.heap.size := fun g h => hown.lt h
      go_upto_region 5 with fail
      have Hp := Lib.hid hP
      have Hl := Lib.hid hL
      have hPr := hP.lt
      go_cut [8, 9] (fun y z W => ∃ N A3 n3 c3 B3 m3 d3 D3 q3 e3, y = .pointer (some ⟨N, 0, none⟩) ∧ z = .int .i64 code ∧ wr.heap.size ≤ N ∧ Blk W N 26 [.slice A3 n3 c3, .slice B3 m3 d3, .int .i64 nx.office, .int .i64 nx.bank, .int .i64 nx.begun, .int .i64 nx.inn, .int .i64 nx.out, .slice D3 q3 e3] ∧ LedM W nx A3 n3 B3 m3 D3 q3 ∧ (∀ g, g < wr.heap.size → LedOff g A3 n3 B3 m3 D3 q3) ∧ Below wr.heap.size wr W)
      case first =>
        refine Dr.Any.wp_region_plan 12 (Dr.Any.from_ wr.drew.heap.size) (.q [0, 1, 2, 3, 4] (.e2 5 (.q [6, 7, 8] (.e1 9 (.e1 10 (.q [11] .done)))) 9 (.e1 5 (.q [6, 7, 8] (.e1 10 (.q [11] .done)))))) (by kernel_rfl) (by kernel_rfl) ?_
        have hbd := ext_drew wr
        have hPd := hP.ext hbd
        have hLd := hL.ext hbd
        have hs0 := hbd.size
        clear hP hL Hsn Hst Hdf Hln
        generalize wr.drew = V0 at *
        have hbv := Below.refl V0.heap.size V0
        have qq0 := Dr.Any.cls_cell (M := Dr.Any.from_ V0.heap.size) (hPd.cell (i := 0) rfl) (by rw [Dr.Any.mem_from]; simp only; omega)
        have qq1 := Dr.Any.cls_cell (M := Dr.Any.from_ V0.heap.size) (hPd.cell (i := 1) rfl) (by rw [Dr.Any.mem_from]; simp only; omega)
        have qq2 := Dr.Any.cls_cell (M := Dr.Any.from_ V0.heap.size) (hPd.cell (i := 2) rfl) (by rw [Dr.Any.mem_from]; simp only; omega)
        have qq3 := Dr.Any.cls_cell (M := Dr.Any.from_ V0.heap.size) (hPd.cell (i := 3) rfl) (by rw [Dr.Any.mem_from]; simp only; omega)
        have qq4 := Dr.Any.cls_cell (M := Dr.Any.from_ V0.heap.size) (hPd.cell (i := 4) rfl) (by rw [Dr.Any.mem_from]; simp only; omega)
        have qq5 := Dr.Any.cls_cell (M := Dr.Any.from_ V0.heap.size) (hPd.cell (i := 5) rfl) (by rw [Dr.Any.mem_from]; simp only; omega)
        have qq6 := Dr.Any.cls_cell (M := Dr.Any.from_ V0.heap.size) (hPd.cell (i := 6) rfl) (by rw [Dr.Any.mem_from]; simp only; omega)
        have qq7 := Dr.Any.cls_cell (M := Dr.Any.from_ V0.heap.size) (hPd.cell (i := 7) rfl) (by rw [Dr.Any.mem_from]; simp only; omega)
        obtain ⟨z1, z2, z3, hz, cc0, cc1, cc2, cc3, cc4, cc5⟩ := HA.out V0 (ext_trans hbw hbd)
        obtain ⟨rfl, rfl⟩ : z1 = zb ∧ z2 = zo := by simpa [eq_comm] using z3
        clear z3
        have vv0 := Dr.Any.cls_cell (M := Dr.Any.from_ V0.heap.size) cc0 (by rw [Dr.Any.mem_from]; simp only; omega)
        have vv1 := Dr.Any.cls_cell (M := Dr.Any.from_ V0.heap.size) cc1 (by rw [Dr.Any.mem_from]; simp only; omega)
        have vv2 := Dr.Any.cls_cell (M := Dr.Any.from_ V0.heap.size) cc2 (by rw [Dr.Any.mem_from]; simp only; omega)
        have vv3 := Dr.Any.cls_cell (M := Dr.Any.from_ V0.heap.size) cc3 (by rw [Dr.Any.mem_from]; simp only; omega)
        have vv4 := Dr.Any.cls_cell (M := Dr.Any.from_ V0.heap.size) cc4 (by rw [Dr.Any.mem_from]; simp only; omega)
        have vv5 := Dr.Any.cls_cell (M := Dr.Any.from_ V0.heap.size) cc5 (by rw [Dr.Any.mem_from]; simp only; omega)
        clear cc0 cc1 cc2 cc3 cc4 cc5
        refine Dr.Any.plan_q (l := [_, _, _, _, _]) rfl (fun K hK => ?_)
        iterate 5 (go_big_quiet_step (fail))
        refine wpQuiet_nil (hK _ ?_); clear hK K
        clear qq0 qq1 qq2 qq3 qq4 qq5 qq6 qq7 vv0 vv1 vv2 vv3 vv4 vv5 hPd
        refine Dr.Any.plan_e2 ?_ ?_
        · skip
          refine Dr.Any.plan_e rfl (by rfl) (fun K hK => ?_)
          go_wp2_with fail
          refine (CD.out _ hLd).mono ?_; rintro r V1 ⟨v6, rfl, ⟨A3, n3, c3, B3, m3, d3, D3, q3, e3, rfl, L6⟩, hbn⟩
          unfold ledV
          refine hK _ _ (.of hbn) ?_; clear hK K hLd
          replace hbv := ext_trans hbv hbn
          have hsV1 := hbn.size
          refine Dr.Any.plan_q (l := [_, _, _]) rfl (fun K hK => ?_)
          iterate 3 (go_big_quiet_step (fail))
          refine wpQuiet_nil (hK _ ?_); clear hK K
          refine Dr.Any.plan_e rfl (by rfl) (fun K hK => ?_)
          go_wp2_with fail
          refine hK _ _ (.of (ext_alloc _ _)) ?_; clear hK K
          have hP5 := Blk.new V1 26 [.slice none 0 0, .slice none 0 0, .int .i64 0, .int .i64 0, .int .i64 0, .int .i64 0, .int .i64 0, .slice none 0 0]
          have hAl := ext_alloc V1 (.cells #[.slice none 0 0, .slice none 0 0, .int .i64 0, .int .i64 0, .int .i64 0, .int .i64 0, .int .i64 0, .slice none 0 0] 26)
          replace hbv := ext_trans hbv hAl
          have hsV2 := hAl.size
          have hP5g : V0.heap.size ≤ V1.heap.size := by omega
          change Blk (V1.alloc (.cells #[.slice none 0 0, .slice none 0 0, .int .i64 0, .int .i64 0, .int .i64 0, .int .i64 0, .int .i64 0, .slice none 0 0] 26)) _ _ _ at hP5
          have L7 := L6.ext hAl
          clear hAl
          generalize hP5e : V1.heap.size = P5 at *
          generalize V1.alloc (.cells #[.slice none 0 0, .slice none 0 0, .int .i64 0, .int .i64 0, .int .i64 0, .int .i64 0, .int .i64 0, .slice none 0 0] 26) = V2 at *
          have hP5l := hP5.lt
          have y0 : V2.cell? ⟨P5, 0, none⟩ = _ := hP5.cell (i := 0) rfl
          have y1 : V2.cell? ⟨P5, 1, none⟩ = _ := hP5.cell (i := 1) rfl
          have y2 : V2.cell? ⟨P5, 2, none⟩ = _ := hP5.cell (i := 2) rfl
          have y3 : V2.cell? ⟨P5, 3, none⟩ = _ := hP5.cell (i := 3) rfl
          have y4 : V2.cell? ⟨P5, 4, none⟩ = _ := hP5.cell (i := 4) rfl
          have y5 : V2.cell? ⟨P5, 5, none⟩ = _ := hP5.cell (i := 5) rfl
          have y6 : V2.cell? ⟨P5, 6, none⟩ = _ := hP5.cell (i := 6) rfl
          have y7 : V2.cell? ⟨P5, 7, none⟩ = _ := hP5.cell (i := 7) rfl
          have f0 := hP5.free 0
          have f1 := hP5.free 1
          have f2 := hP5.free 2
          have f3 := hP5.free 3
          have f4 := hP5.free 4
          have f5 := hP5.free 5
          have f6 := hP5.free 6
          have f7 := hP5.free 7
          refine Dr.Any.plan_e rfl (by rfl) (fun K hK => ?_)
          go_wp2_with fail
          generalize hWf : World.setCell _ _ (Value.slice D3 q3 e3) = Wf
          have hPf := hP5.put_eq [.slice A3 n3 c3, .slice B3 m3 d3, .int .i64 nx.office, .int .i64 nx.bank, .int .i64 nx.begun, .int .i64 nx.inn, .int .i64 nx.out, .slice D3 q3 e3] hWf rfl
          have hbf : Dr.Bel [P5] V2 Wf := bel_put_eq [.slice A3 n3 c3, .slice B3 m3 d3, .int .i64 nx.office, .int .i64 nx.bank, .int .i64 nx.begun, .int .i64 nx.inn, .int .i64 nx.out, .slice D3 q3 e3] hWf
          clear hWf y0 y1 y2 y3 y4 y5 y6 y7 f0 f1 f2 f3 f4 f5 f6 f7
          refine hK _ _ ((⟨hbf.os, hbf.tape, hbf.output, hbf.size, fun k hk hm => hbf.block k hk (by simp; intro e; exact hm (by rw [Dr.Any.mem_from]; omega))⟩ : Dr.Any.Bel _ _ _)) ?_; clear hK K
          refine Dr.Any.plan_q (l := [_]) rfl (fun K hK => ?_)
          iterate 1 (go_big_quiet_step (fail))
          refine wpQuiet_nil (hK _ ?_); clear hK K
          have hfa := L6.fa
          have hfb := L6.fb
          have hfd := L6.fd
          have ho5 : LedOff P5 A3 n3 B3 m3 D3 q3 := ⟨fun _ h => by have := (hfa _ h).2; omega, fun _ h => by have := (hfb _ h).2; omega, fun _ h => by have := (hfd _ h).2; omega⟩
          refine Dr.Any.plan_end rfl ?_
          go_wp2
          go_meet
          case rel => exact ⟨P5, A3, n3, c3, B3, m3, d3, D3, q3, e3, rfl, rfl, by omega, hPf, L7.m.bel1 ho5 hbf, fun g hg => ⟨fun _ h => by have := (hfa _ h).1; omega, fun _ h => by have := (hfb _ h).1; omega, fun _ h => by have := (hfd _ h).1; omega⟩, ext_trans hbd (hbv.trans (hbf.old (by omega) (by simp; omega)))⟩
        · skip
          refine Dr.Any.plan_e rfl (by rfl) (fun K hK => ?_)
          go_wp2_with fail
          refine hK _ _ (.of (ext_alloc _ _)) ?_; clear hK K
          have hP5 := Blk.new V0 26 [.slice none 0 0, .slice none 0 0, .int .i64 0, .int .i64 0, .int .i64 0, .int .i64 0, .int .i64 0, .slice none 0 0]
          have hAl := ext_alloc V0 (.cells #[.slice none 0 0, .slice none 0 0, .int .i64 0, .int .i64 0, .int .i64 0, .int .i64 0, .int .i64 0, .slice none 0 0] 26)
          replace hbv := ext_trans hbv hAl
          have hsV1 := hAl.size
          have hP5g : V0.heap.size ≤ V0.heap.size := by omega
          change Blk (V0.alloc (.cells #[.slice none 0 0, .slice none 0 0, .int .i64 0, .int .i64 0, .int .i64 0, .int .i64 0, .int .i64 0, .slice none 0 0] 26)) _ _ _ at hP5
          replace hLd := hLd.ext hAl
          clear hAl
          obtain ⟨P5, hP5e⟩ : ∃ P5, V0.heap.size = P5 := ⟨_, rfl⟩
          rw [hP5e] at hP5
          generalize V0.alloc (.cells #[.slice none 0 0, .slice none 0 0, .int .i64 0, .int .i64 0, .int .i64 0, .int .i64 0, .int .i64 0, .slice none 0 0] 26) = V1 at *
          rw [hP5e]
          have hP5l := hP5.lt
          refine Dr.Any.plan_e rfl (by rfl) (fun K hK => ?_)
          go_wp2_with fail
          refine (CD.out _ hLd).mono ?_; rintro r V2 ⟨v6, rfl, ⟨A3, n3, c3, B3, m3, d3, D3, q3, e3, rfl, L6⟩, hbn⟩
          unfold ledV
          refine hK _ _ (.of hbn) ?_; clear hK K hLd
          replace hbv := ext_trans hbv hbn
          have hsV2 := hbn.size
          replace hP5 := hP5.ext hbn
          refine Dr.Any.plan_q (l := [_, _, _]) rfl (fun K hK => ?_)
          iterate 3 (go_big_quiet_step (fail))
          refine wpQuiet_nil (hK _ ?_); clear hK K
          have y0 : V2.cell? ⟨P5, 0, none⟩ = _ := hP5.cell (i := 0) rfl
          have y1 : V2.cell? ⟨P5, 1, none⟩ = _ := hP5.cell (i := 1) rfl
          have y2 : V2.cell? ⟨P5, 2, none⟩ = _ := hP5.cell (i := 2) rfl
          have y3 : V2.cell? ⟨P5, 3, none⟩ = _ := hP5.cell (i := 3) rfl
          have y4 : V2.cell? ⟨P5, 4, none⟩ = _ := hP5.cell (i := 4) rfl
          have y5 : V2.cell? ⟨P5, 5, none⟩ = _ := hP5.cell (i := 5) rfl
          have y6 : V2.cell? ⟨P5, 6, none⟩ = _ := hP5.cell (i := 6) rfl
          have y7 : V2.cell? ⟨P5, 7, none⟩ = _ := hP5.cell (i := 7) rfl
          have f0 := hP5.free 0
          have f1 := hP5.free 1
          have f2 := hP5.free 2
          have f3 := hP5.free 3
          have f4 := hP5.free 4
          have f5 := hP5.free 5
          have f6 := hP5.free 6
          have f7 := hP5.free 7
          refine Dr.Any.plan_e rfl (by rfl) (fun K hK => ?_)
          go_wp2_with fail
          generalize hWf : World.setCell _ _ (Value.slice D3 q3 e3) = Wf
          have hPf := hP5.put_eq [.slice A3 n3 c3, .slice B3 m3 d3, .int .i64 nx.office, .int .i64 nx.bank, .int .i64 nx.begun, .int .i64 nx.inn, .int .i64 nx.out, .slice D3 q3 e3] hWf rfl
          have hbf : Dr.Bel [P5] V2 Wf := bel_put_eq [.slice A3 n3 c3, .slice B3 m3 d3, .int .i64 nx.office, .int .i64 nx.bank, .int .i64 nx.begun, .int .i64 nx.inn, .int .i64 nx.out, .slice D3 q3 e3] hWf
          clear hWf y0 y1 y2 y3 y4 y5 y6 y7 f0 f1 f2 f3 f4 f5 f6 f7
          refine hK _ _ ((⟨hbf.os, hbf.tape, hbf.output, hbf.size, fun k hk hm => hbf.block k hk (by simp; intro e; exact hm (by rw [Dr.Any.mem_from]; omega))⟩ : Dr.Any.Bel _ _ _)) ?_; clear hK K
          refine Dr.Any.plan_q (l := [_]) rfl (fun K hK => ?_)
          iterate 1 (go_big_quiet_step (fail))
          refine wpQuiet_nil (hK _ ?_); clear hK K
          have hfa := L6.fa
          have hfb := L6.fb
          have hfd := L6.fd
          have ho5 : LedOff P5 A3 n3 B3 m3 D3 q3 := ⟨fun _ h => by have := (hfa _ h).1; omega, fun _ h => by have := (hfb _ h).1; omega, fun _ h => by have := (hfd _ h).1; omega⟩
          refine Dr.Any.plan_end rfl ?_
          go_wp2
          go_meet
          case rel => exact ⟨P5, A3, n3, c3, B3, m3, d3, D3, q3, e3, rfl, rfl, by omega, hPf, L6.m.bel1 ho5 hbf, fun g hg => ⟨fun _ h => by have := (hfa _ h).1; omega, fun _ h => by have := (hfb _ h).1; omega, fun _ h => by have := (hfd _ h).1; omega⟩, ext_trans hbd (hbv.trans (hbf.old (by omega) (by simp; omega)))⟩
      case rest =>
        obtain ⟨N, A3, n3, c3, B3, m3, d3, D3, q3, e3, rfl, rfl, hN, hY, hL3, ho3, hb3⟩ := hcut
        generalize wc = V at *
        have hP3 := Hp.out.ext hb3
        have hL4 := Hl.out.ext hb3
        have hown3 := hown.ext hb3
        have hbV := hb.then_below (hb3.mono hb.size)
        clear CD HA hP hL
        go_upto_if 26 with fail
        go_cut [27] (fun _ W => BoxR W w.heap.size v (if code = 0 then nx else st) ∧ OwnL W W0.heap.size 3 1 encI v es ∧ Dr.Bel [w.heap.size] W0 W)
        case first =>
          by_cases hc : code = 0
          · subst hc
            have y0 : V.cell? ⟨N, 0, none⟩ = _ := hY.cell (i := 0) rfl
            have y1 : V.cell? ⟨N, 1, none⟩ = _ := hY.cell (i := 1) rfl
            have y2 : V.cell? ⟨N, 2, none⟩ = _ := hY.cell (i := 2) rfl
            have y3 : V.cell? ⟨N, 3, none⟩ = _ := hY.cell (i := 3) rfl
            have y4 : V.cell? ⟨N, 4, none⟩ = _ := hY.cell (i := 4) rfl
            have y5 : V.cell? ⟨N, 5, none⟩ = _ := hY.cell (i := 5) rfl
            have y6 : V.cell? ⟨N, 6, none⟩ = _ := hY.cell (i := 6) rfl
            have y7 : V.cell? ⟨N, 7, none⟩ = _ := hY.cell (i := 7) rfl
            have p0 : V.cell? ⟨w.heap.size, 0, none⟩ = _ := hP3.cell (i := 0) rfl
            have p1 : V.cell? ⟨w.heap.size, 1, none⟩ = _ := hP3.cell (i := 1) rfl
            have p2 : V.cell? ⟨w.heap.size, 2, none⟩ = _ := hP3.cell (i := 2) rfl
            have p3 : V.cell? ⟨w.heap.size, 3, none⟩ = _ := hP3.cell (i := 3) rfl
            have p4 : V.cell? ⟨w.heap.size, 4, none⟩ = _ := hP3.cell (i := 4) rfl
            have p5 : V.cell? ⟨w.heap.size, 5, none⟩ = _ := hP3.cell (i := 5) rfl
            have p6 : V.cell? ⟨w.heap.size, 6, none⟩ = _ := hP3.cell (i := 6) rfl
            have p7 : V.cell? ⟨w.heap.size, 7, none⟩ = _ := hP3.cell (i := 7) rfl
            have f0 := hP3.free 0
            have f1 := hP3.free 1
            have f2 := hP3.free 2
            have f3 := hP3.free 3
            have f4 := hP3.free 4
            have f5 := hP3.free 5
            have f6 := hP3.free 6
            have f7 := hP3.free 7
            go_wp2
            generalize hWf : World.setCell _ _ (Value.slice D3 q3 e3) = Wf
            have hPf := hP3.put_eq [.slice A3 n3 c3, .slice B3 m3 d3, .int .i64 nx.office, .int .i64 nx.bank, .int .i64 nx.begun, .int .i64 nx.inn, .int .i64 nx.out, .slice D3 q3 e3] hWf rfl
            have hbf : Dr.Bel [w.heap.size] V Wf := bel_put_eq [.slice A3 n3 c3, .slice B3 m3 d3, .int .i64 nx.office, .int .i64 nx.bank, .int .i64 nx.begun, .int .i64 nx.inn, .int .i64 nx.out, .slice D3 q3 e3] hWf
            clear hWf p0 p1 p2 p3 p4 p5 p6 p7 f0 f1 f2 f3 f4 f5 f6 f7 y0 y1 y2 y3 y4 y5 y6 y7
            have hoP := ho3 w.heap.size hPr
            have hownf : OwnL Wf W0.heap.size 3 1 encI v es := by
              refine hown3.kept (⟨hbf.os, hbf.tape, hbf.output, hbf.size, fun k hk hn => hbf.block k hk (by simp; intro e; exact hn (by rw [e]))⟩ : World.grownBy V Wf (some w.heap.size)) ?_
              cases hv : v.ownBlock with
              | none => exact .inl rfl
              | some x => exact .inr (fun e => by cases e; have := (hgv _ hv).1; omega)
            go_meet
            case rel => exact ⟨by simp only [if_true]; exact ⟨A3, n3, c3, B3, m3, d3, D3, q3, e3, hPf, hL3.bel1 hoP hbf, hoP, ho3 (w.heap.size + 1) (by omega), fun g hg => ho3 g (hgv g hg).2⟩, hownf, hbV.trans hbf⟩
          · have hce : (code == 0) = false := by simpa using hc
            go_wp2
            go_meet
            case rel => exact ⟨by rw [if_neg hc]; exact ⟨A1, n1, c1, B1, m1, d1, D1, q1, e1, hP3, hL4, hof, hof2, hog⟩, hown3, hbV⟩
        case rest =>
          obtain ⟨hbx, hown4, hb4⟩ := hcut
          generalize wc = V2 at *
          clear hP3 hL4 hown3 hbV hY hL3 ho3 hb3 Hp Hl hof hof2 hog
          have hs4 := hb4.size
          have hnw := Blk.new V2 3 [.int .i64 code]
          have hal := ext_alloc V2 (.cells #[.int .i64 code] 3)
          go_wp2_with (at_builtin; refine app1 encI 22 3 1 8 et27 (by decide) (by decide) encI_len encI_one rfl _ _ rfl W0.heap.size _ es rfl (hown4.alloc _) V2.heap.size rfl code (encI_cell (hnw.cell rfl)) (by omega) (by simp; omega) ?_; intro g2 cp2 w2 ho2 hb2 hg2 hn2)
          have hbx2 : BoxR w2 w.heap.size (.slice (some ⟨g2, 0, none⟩) (es.length + 1) cp2) (if code = 0 then nx else st) := by
            obtain ⟨A9, n9, c9, B9, m9, d9, D9, q9, e9, k1, k2, k3, k5, k4⟩ := hbx.ext hal
            have hlow : ∀ g, v.ownBlock = some g → W0.heap.size ≤ g := fun g h => (hown4.lt h).1
            refine ⟨A9, n9, c9, B9, m9, d9, D9, q9, e9, (hg2.block _ k1.lt (fun e => by have := hlow _ e.symm; omega)).trans k1, k2.kept hg2 (fun g e => k4 g e), k3, k5, fun g hg => ?_⟩
            obtain rfl : g2 = g := by simpa [Value.ownBlock] using hg
            rcases hn2 with h | h
            · exact k4 _ h
            · exact k2.off (by omega)
          have hbel2 : Dr.Bel [w.heap.size] W0 w2 := (hb4.then_below (hal.mono hb4.size)).then_below hb2
          go_roundw
          case rel => exact ⟨j + 1, _, rfl, by go_num, by omega, by rw [Hsn.out]; exact hbx2, by rw [Hsn.out]; exact ho2, hbel2⟩
          case measure => simp [intOf]; omega
    · obtain rfl : j = k := by omega
      rw [List.take_of_length_le (by rw [Hk.out]; omega)] at hbox hown
      obtain ⟨A1, n1, c1, B1, m1, d1, D1, q1, e1, hP, hL, -, hof2, -⟩ := hbox
      obtain ⟨st, hst2⟩ : ∃ x, (runL l acts).1 = x := ⟨_, rfl⟩
      obtain ⟨es, hes2⟩ : ∃ x, (runL l acts).2 = x := ⟨_, rfl⟩
      rw [hst2] at hP hL
      rw [hes2] at hown
      have Hs2 := Lib.hid hst2
      have He2 := Lib.hid hes2
      clear hst2 hes2
      have hov := fun g h => (hown.lt (k := g) h).1
      have p0 : wr.cell? ⟨w.heap.size, 0, none⟩ = _ := hP.cell (i := 0) rfl
      have p1 : wr.cell? ⟨w.heap.size, 1, none⟩ = _ := hP.cell (i := 1) rfl
      have p2 : wr.cell? ⟨w.heap.size, 2, none⟩ = _ := hP.cell (i := 2) rfl
      have p3 : wr.cell? ⟨w.heap.size, 3, none⟩ = _ := hP.cell (i := 3) rfl
      have p4 : wr.cell? ⟨w.heap.size, 4, none⟩ = _ := hP.cell (i := 4) rfl
      have p5 : wr.cell? ⟨w.heap.size, 5, none⟩ = _ := hP.cell (i := 5) rfl
      have p6 : wr.cell? ⟨w.heap.size, 6, none⟩ = _ := hP.cell (i := 6) rfl
      have p7 : wr.cell? ⟨w.heap.size, 7, none⟩ = _ := hP.cell (i := 7) rfl
      have y0 : wr.cell? ⟨w.heap.size + 1, 0, none⟩ = _ := hRr.cell (i := 0) rfl
      have y1 : wr.cell? ⟨w.heap.size + 1, 1, none⟩ = _ := hRr.cell (i := 1) rfl
      have y2 : wr.cell? ⟨w.heap.size + 1, 2, none⟩ = _ := hRr.cell (i := 2) rfl
      have y3 : wr.cell? ⟨w.heap.size + 1, 3, none⟩ = _ := hRr.cell (i := 3) rfl
      have y4 : wr.cell? ⟨w.heap.size + 1, 4, none⟩ = _ := hRr.cell (i := 4) rfl
      have y5 : wr.cell? ⟨w.heap.size + 1, 5, none⟩ = _ := hRr.cell (i := 5) rfl
      have y6 : wr.cell? ⟨w.heap.size + 1, 6, none⟩ = _ := hRr.cell (i := 6) rfl
      have y7 : wr.cell? ⟨w.heap.size + 1, 7, none⟩ = _ := hRr.cell (i := 7) rfl
      have f0 := hRr.free 0
      have f1 := hRr.free 1
      have f2 := hRr.free 2
      have f3 := hRr.free 3
      have f4 := hRr.free 4
      have f5 := hRr.free 5
      have f6 := hRr.free 6
      have f7 := hRr.free 7
      go_wp2
      generalize hWf : World.setCell _ _ (Value.slice D1 q1 e1) = Wf
      have hRf := hRr.put_eq [.slice A1 n1 c1, .slice B1 m1 d1, .int .i64 st.office, .int .i64 st.bank, .int .i64 st.begun, .int .i64 st.inn, .int .i64 st.out, .slice D1 q1 e1] hWf rfl
      have hbf : Dr.Bel [w.heap.size + 1] wr Wf := bel_put_eq [.slice A1 n1 c1, .slice B1 m1 d1, .int .i64 st.office, .int .i64 st.bank, .int .i64 st.begun, .int .i64 st.inn, .int .i64 st.out, .slice D1 q1 e1] hWf
      clear hWf y0 y1 y2 y3 y4 y5 y6 y7 f0 f1 f2 f3 f4 f5 f6 f7 p0 p1 p2 p3 p4 p5 p6 p7
      have z0 : Wf.cell? ⟨w.heap.size + 1, 0, none⟩ = _ := hRf.cell (i := 0) rfl
      have z1 : Wf.cell? ⟨w.heap.size + 1, 1, none⟩ = _ := hRf.cell (i := 1) rfl
      have z2 : Wf.cell? ⟨w.heap.size + 1, 2, none⟩ = _ := hRf.cell (i := 2) rfl
      have z3 : Wf.cell? ⟨w.heap.size + 1, 3, none⟩ = _ := hRf.cell (i := 3) rfl
      have z4 : Wf.cell? ⟨w.heap.size + 1, 4, none⟩ = _ := hRf.cell (i := 4) rfl
      have z5 : Wf.cell? ⟨w.heap.size + 1, 5, none⟩ = _ := hRf.cell (i := 5) rfl
      have z6 : Wf.cell? ⟨w.heap.size + 1, 6, none⟩ = _ := hRf.cell (i := 6) rfl
      have z7 : Wf.cell? ⟨w.heap.size + 1, 7, none⟩ = _ := hRf.cell (i := 7) rfl
      have hownf : OwnL Wf W0.heap.size 3 1 encI v es := by
        refine hown.kept (⟨hbf.os, hbf.tape, hbf.output, hbf.size, fun k hk hn => hbf.block k hk (by simp; intro e; exact hn (by rw [e]))⟩ : World.grownBy wr Wf (some (w.heap.size + 1))) ?_
        cases hv : v.ownBlock with
        | none => exact .inl rfl
        | some x => exact .inr (fun e => by cases e; have := hov _ hv; omega)
      refine bodyPost_ret (v := .tuple #[.agg #[.slice A1 n1 c1, .slice B1 m1 d1, .int .i64 st.office, .int .i64 st.bank, .int .i64 st.begun, .int .i64 st.inn, .int .i64 st.out, .slice D1 q1 e1], v]) (by simp [results, Tryz.results13, go_sem, z0, z1, z2, z3, z4, z5, z6, z7]) rfl ?_
      exact ⟨_, _, rfl, by rw [Hs2.out]; exact ⟨A1, n1, c1, B1, m1, d1, D1, q1, e1, rfl, hL.bel1 hof2 hbf⟩, by rw [He2.out]; exact FreshL.of_own hownf encI_len (by omega), hbw.trans (hbf.old (n := w.heap.size) hbw.size (by simp))⟩
end Go.Proofs.YtnjdlhhgnamigaaGreat

/- Walk: the law PurseCoins. -/
import Derived.Test.YtnjdlhhgnamigaaAwC
import Derived.Test.YtnjdlhhgnamigaaLgnG
import Derived.Test.YtnjdlhhgnamigaaCoiA
import Derived.Test.YtnjdlhhgnamigaaCoiP
namespace Go.Pu
/-- a ledger behind the first j acts -/
def stL (l : Led) (acts : List Act) (j : Nat) : Led := (runL l (acts.take j)).1
theorem st_zero (l : Led) (acts : List Act) : stL l acts 0 = l := by simp [stL, runL]
theorem st_succ (l : Led) {acts : List Act} {j : Nat} (h : j < acts.length) : stL l acts (j + 1) = if (doL (stL l acts j) acts[j]).2 = 0 then (doL (stL l acts j) acts[j]).1 else stL l acts j := by
  unfold stL
  rw [List.take_succ_eq_append_getElem h, runL_snoc]
theorem st_all (l : Led) (acts : List Act) : stL l acts acts.length = (runL l acts).1 := by unfold stL; rw [List.take_of_length_le (Nat.le_refl _)]
theorem st_ok {l : Led} (h : l.Ok) (acts : List Act) : ∀ j, j ≤ acts.length → (stL l acts j).Ok ∧ (stL l acts j).begun = l.begun
  | 0, _ => by rw [st_zero]; exact ⟨h, rfl⟩
  | j + 1, hj => by
    obtain ⟨h1, h2⟩ := st_ok h acts j (by omega)
    rw [st_succ l (by omega)]
    rcases doL_ok h1 acts[j] with ⟨e, h3, h4⟩ | ⟨e, -⟩
    · rw [if_pos e]; exact ⟨h3, h4.trans h2⟩
    · rw [if_neg e]; exact ⟨h1, h2⟩
end Go.Pu
namespace Go.Proofs.Ytnjdlhhgnamigaa
open Go.RowKit Go.Bs Go.Pu Go.Pl Go.Sort
/-- the rows of a ledger lie apart from a block -/
structure LedOff (P : Nat) (A : Option Addr) (n : Nat) (B : Option Addr) (m : Nat) (D : Option Addr) (q : Nat) : Prop where
  a : 0 < n → A.map (·.block) ≠ some P
  b : 0 < m → B.map (·.block) ≠ some P
  d : 0 < q → D.map (·.block) ≠ some P
theorem LedM.off {w : World} {l : Led} {A : Option Addr} {n : Nat} {B : Option Addr} {m : Nat} {D : Option Addr} {q : Nat} {P : Nat} (h : LedM w l A n B m D q) (hP : w.heap.size ≤ P) : LedOff P A n B m D q := by
  refine ⟨fun h0 e => ?_, fun h0 e => ?_, fun h0 e => ?_⟩
  · obtain ⟨b, off, e2, hlt, -⟩ := h.a.at1 (k := 0) (by rw [h.hn]; exact h0) rfl
    subst e2; simp at e; omega
  · obtain ⟨b, off, e2, hlt, -⟩ := h.b.at6 (k := 0) (by rw [h.hm]; exact h0) rfl
    subst e2; simp at e; omega
  · obtain ⟨b, off, e2, hlt, -⟩ := h.d.at3 (k := 0) (by rw [h.hq]; exact h0) rfl
    subst e2; simp at e; omega
theorem LedM.bel1 {w w' : World} {l : Led} {A : Option Addr} {n : Nat} {B : Option Addr} {m : Nat} {D : Option Addr} {q : Nat} {P : Nat} (h : LedM w l A n B m D q) (ho : LedOff P A n B m D q) (hb : Dr.Bel [P] w w') : LedM w' l A n B m D q := by
  have key : ∀ {α : Type} (X : Option Addr) (sz : Nat) (enc : α → List Value) (li : List α) (k : Nat), li.length = k → Cells w X sz enc li → (0 < k → X.map (·.block) ≠ some P) → Cells w' X sz enc li := by
    intro α X sz enc li k hk hc h0
    by_cases hz : 0 < k
    · exact cells_bel hc hb (fun z hz2 hm => by simp at hm; subst hm; exact h0 hz hz2)
    · obtain rfl : li = [] := List.length_eq_zero_iff.1 (by omega)
      exact Cells.nil
  exact ⟨h.hn, h.hm, h.hq, h.n9, h.m9, h.q9, key A 1 encI _ n h.hn h.a ho.a, key B 6 Bag.enc _ m h.hm h.b ho.b, key D 3 Dif.enc _ q h.hq h.d ho.d⟩
/-- a ledger in a box, its rows apart from it -/
def BoxL (w : World) (P : Nat) (l : Led) : Prop := ∃ A n c B m d D q e, Blk w P 81 [.slice A n c, .slice B m d, .int .i64 l.office, .int .i64 l.bank, .int .i64 l.begun, .int .i64 l.inn, .int .i64 l.out, .slice D q e] ∧ LedM w l A n B m D q ∧ LedOff P A n B m D q
theorem BoxL.ext {w w' : World} {P : Nat} {l : Led} (h : BoxL w P l) (hb : Below w.heap.size w w') : BoxL w' P l := by
  obtain ⟨A, n, c, B, m, d, D, q, e, h1, h2, h3⟩ := h
  exact ⟨A, n, c, B, m, d, D, q, e, h1.ext hb, h2.ext hb, h3⟩
theorem BoxL.lt {w : World} {P : Nat} {l : Led} (h : BoxL w P l) : P < w.heap.size := by
  obtain ⟨A, n, c, B, m, d, D, q, e, h1, h2, h3⟩ := h
  exact h1.lt
theorem lz_m (w : World) : LedM w Led.zero none 0 none 0 none 0 := ⟨rfl, rfl, rfl, by omega, by omega, by omega, fun i x h => by simp [Led.zero] at h, fun i x h => by simp [Led.zero] at h, fun i x h => by simp [Led.zero] at h⟩
set_option maxRecDepth 100000 in
set_option maxHeartbeats 16000000 in
theorem coins_law (l : Led) (A : Option Addr) (n c : Nat) (B : Option Addr) (m d : Nat) (D : Option Addr) (q e : Nat) (acts : List Pu.Act) (Z : Option Addr) (k kc : Nat) (w : World)
    (hn : l.windows.length = n) (hm : l.bags.length = m) (hq : l.diffs.length = q) (h1 : n ≤ 9223372036854775807) (h2 : m ≤ 9223372036854775807) (h3 : q ≤ 9223372036854775807) (hA : Cells w A 1 encI l.windows) (hB : Cells w B 6 Bag.enc l.bags) (hD : Cells w D 3 Dif.enc l.diffs)
    (hk : acts.length = k) (hk9 : k ≤ 9223372036854775807) (hZ : Cells w Z 6 Act.enc acts) :
    Calls Try.prog 10 #[ledV A n c B m d l.office l.bank l.begun l.inn l.out D q e, .slice Z k kc] w fun r w' => r = .returned (.bool true) ∧ Below w.heap.size w w' := by
  have hbw0 := ext_alloc w (.cells #[.slice A n c, .slice B m d, .int .i64 l.office, .int .i64 l.bank, .int .i64 l.begun, .int .i64 l.inn, .int .i64 l.out, .slice D q e] 75)
  have hX0 := Blk.new w 75 [.slice A n c, .slice B m d, .int .i64 l.office, .int .i64 l.bank, .int .i64 l.begun, .int .i64 l.inn, .int .i64 l.out, .slice D q e]
  have CS := Lib.hid (fun W => small_any l A n c B m d D q e W)
  have HM := Lib.hid (fun W (hb : Below w.heap.size w W) (a1 : n ≤ 1000) (a2 : m ≤ 1000) (a3 : q ≤ 1000) => (⟨hn, hm, hq, a1, a2, a3, hA.ext hb, hB.ext hb, hD.ext hb⟩ : LedM W l A n B m D q))
  have HZ := Lib.hid (fun W (hb : Below w.heap.size w W) => hZ.ext hb)
  have Hk := Lib.hid hk
  have CL := Lib.hid (fun W h => Ledger_any l A n c B m d D q e W h)
  have CR := Lib.hid (fun W h => RightL_any l A n c B m d D q e W h)
  clear hA hB hD hn hm hq hk hZ
  unfold ledV at *
  go_enter Try.func10, Try.ntmps10
  go_upto_region 1 with fail
  change Blk (w.alloc (.cells #[.slice A n c, .slice B m d, .int .i64 l.office, .int .i64 l.bank, .int .i64 l.begun, .int .i64 l.inn, .int .i64 l.out, .slice D q e] 75)) _ _ _ at hX0
  generalize w.alloc (.cells #[.slice A n c, .slice B m d, .int .i64 l.office, .int .i64 l.bank, .int .i64 l.begun, .int .i64 l.inn, .int .i64 l.out, .slice D q e] 75) = W0 at *
  have x0 : W0.cell? ⟨w.heap.size, 0, none⟩ = _ := hX0.cell (i := 0) rfl
  have x1 : W0.cell? ⟨w.heap.size, 1, none⟩ = _ := hX0.cell (i := 1) rfl
  have x2 : W0.cell? ⟨w.heap.size, 2, none⟩ = _ := hX0.cell (i := 2) rfl
  have x3 : W0.cell? ⟨w.heap.size, 3, none⟩ = _ := hX0.cell (i := 3) rfl
  have x4 : W0.cell? ⟨w.heap.size, 4, none⟩ = _ := hX0.cell (i := 4) rfl
  have x5 : W0.cell? ⟨w.heap.size, 5, none⟩ = _ := hX0.cell (i := 5) rfl
  have x6 : W0.cell? ⟨w.heap.size, 6, none⟩ = _ := hX0.cell (i := 6) rfl
  have x7 : W0.cell? ⟨w.heap.size, 7, none⟩ = _ := hX0.cell (i := 7) rfl
  go_wp2_with fail
  refine (CS.out _).mono ?_; rintro r W1 ⟨rfl, hb1⟩
  have hbw1 := ext_trans hbw0 hb1
  have hX1 := hX0.ext hb1
  clear hbw0 hb1 hX0 x0 x1 x2 x3 x4 x5 x6 x7 CS
  obtain ⟨sm, hsm⟩ : ∃ b, (decide (n ≤ 15) && (decide (m ≤ 105) && decide (q ≤ 105))) = b := ⟨_, rfl⟩
  rw [hsm]
  have Hsm := Lib.hid hsm
  clear hsm
  cases sm
  · skip
    go_wp2_with fail
    refine (awake_any _).mono ?_; rintro r wz ⟨rfl, hbz⟩
    go_wp2
    go_ret
    exact ⟨rfl, ext_trans hbw1 hbz⟩
  have hsz : n ≤ 15 ∧ m ≤ 105 ∧ q ≤ 105 := by have := Hsm.out; simpa using this
  obtain ⟨hn15, hm105, hq105⟩ := hsz
  by_cases h60 : 60 < k
  · have h60' : (60 : Int) < (k : Int) := by omega
    go_wp2_with fail
    refine (awake_any _).mono ?_; rintro r wz ⟨rfl, hbz⟩
    go_wp2
    go_ret
    exact ⟨rfl, ext_trans hbw1 hbz⟩
  have h60' : ¬ (60 : Int) < (k : Int) := by omega
  have x0 : W1.cell? ⟨w.heap.size, 0, none⟩ = _ := hX1.cell (i := 0) rfl
  have x1 : W1.cell? ⟨w.heap.size, 1, none⟩ = _ := hX1.cell (i := 1) rfl
  have x2 : W1.cell? ⟨w.heap.size, 2, none⟩ = _ := hX1.cell (i := 2) rfl
  have x3 : W1.cell? ⟨w.heap.size, 3, none⟩ = _ := hX1.cell (i := 3) rfl
  have x4 : W1.cell? ⟨w.heap.size, 4, none⟩ = _ := hX1.cell (i := 4) rfl
  have x5 : W1.cell? ⟨w.heap.size, 5, none⟩ = _ := hX1.cell (i := 5) rfl
  have x6 : W1.cell? ⟨w.heap.size, 6, none⟩ = _ := hX1.cell (i := 6) rfl
  have x7 : W1.cell? ⟨w.heap.size, 7, none⟩ = _ := hX1.cell (i := 7) rfl
  have hM := HM.out _ hbw1 (by omega) (by omega) (by omega)
  go_wp2_with fail
  refine (CR.out _ hM).mono ?_; rintro r W2 ⟨rfl, hb2⟩
  have hbw2 := ext_trans hbw1 hb2
  have hX2 := hX1.ext hb2
  clear hbw1 hb2 hX1 hM x0 x1 x2 x3 x4 x5 x6 x7 CR
  cases hok : l.okB
  · skip
    go_wp2_with fail
    refine (awake_any _).mono ?_; rintro r wz ⟨rfl, hbz⟩
    go_wp2
    go_ret
    exact ⟨rfl, ext_trans hbw2 hbz⟩
  have Hok := Lib.hid (ok_iff.1 hok)
  clear hok
  go_upto_region 3 with fail
  have x0 : W2.cell? ⟨w.heap.size, 0, none⟩ = _ := hX2.cell (i := 0) rfl
  have x1 : W2.cell? ⟨w.heap.size, 1, none⟩ = _ := hX2.cell (i := 1) rfl
  have x2 : W2.cell? ⟨w.heap.size, 2, none⟩ = _ := hX2.cell (i := 2) rfl
  have x3 : W2.cell? ⟨w.heap.size, 3, none⟩ = _ := hX2.cell (i := 3) rfl
  have x4 : W2.cell? ⟨w.heap.size, 4, none⟩ = _ := hX2.cell (i := 4) rfl
  have x5 : W2.cell? ⟨w.heap.size, 5, none⟩ = _ := hX2.cell (i := 5) rfl
  have x6 : W2.cell? ⟨w.heap.size, 6, none⟩ = _ := hX2.cell (i := 6) rfl
  have x7 : W2.cell? ⟨w.heap.size, 7, none⟩ = _ := hX2.cell (i := 7) rfl
  have hM := HM.out _ hbw2 (by omega) (by omega) (by omega)
  go_wp2_with fail
  refine (CL.out _ hM).mono ?_; rintro r W3 ⟨A2, c2, B2, d2, D2, e2, rfl, hL3, hb3⟩
  have hbw3 := ext_trans hbw2 hb3
  have hX3 := hX2.ext hb3
  have hal := ext_alloc W3 (.cells #[.slice A2 n c2, .slice B2 m d2, .int .i64 l.office, .int .i64 l.bank, .int .i64 l.begun, .int .i64 l.inn, .int .i64 l.out, .slice D2 q e2] 81)
  have hP0 := Blk.new W3 81 [.slice A2 n c2, .slice B2 m d2, .int .i64 l.office, .int .i64 l.bank, .int .i64 l.begun, .int .i64 l.inn, .int .i64 l.out, .slice D2 q e2]
  have hL4 := hL3.ext hal
  have hX4 := hX3.ext hal
  have hbw4 := ext_trans hbw3 hal
  have hof := hL3.off (Nat.le_refl _)
  have hPw := hX3.lt
  clear hbw2 hb3 hX2 hM x0 x1 x2 x3 x4 x5 x6 x7 hbw3 hX3 hL3
  go_upto_region 4 with fail
  change Blk (W3.alloc (.cells #[.slice A2 n c2, .slice B2 m d2, .int .i64 l.office, .int .i64 l.bank, .int .i64 l.begun, .int .i64 l.inn, .int .i64 l.out, .slice D2 q e2] 81)) _ _ _ at hP0
  clear hal
  generalize W3.heap.size = P at *
  generalize W3.alloc (.cells #[.slice A2 n c2, .slice B2 m d2, .int .i64 l.office, .int .i64 l.bank, .int .i64 l.begun, .int .i64 l.inn, .int .i64 l.out, .slice D2 q e2] 81) = W4 at *
  clear W3 W2
  have hbox : BoxL W4 P l := ⟨A2, n, c2, B2, m, d2, D2, q, e2, hP0, hL4, hof⟩
  clear hP0 hL4 hof
  have hPl := hbox.lt
  go_wp2
  go_loopw [6, 7, 8, 9, 10] (fun x _ _ _ _ wr => ∃ j : Nat, x = .int .i64 j ∧ j ≤ k ∧ BoxL wr P (stL l acts j) ∧ Dr.Bel [P] W4 wr) (fun x _ _ _ _ _ => k - (intOf x).toNat)
  case atStart => exact ⟨0, rfl, by omega, by rw [st_zero]; exact hbox, Dr.Bel.refl _ _⟩
  case round =>
    clear hbox
    obtain ⟨j, rfl, hj, hbox, hb⟩ := hrel
    have hbw := hbw4.trans (hb.old (n := w.heap.size) (by have := hbw4.size; omega) (by simp; omega))
    have hXr := hb.blk hX4 (by simp; omega)
    have hPr := hbox.lt
    by_cases hlt : j < k
    · have hlt' : (j : Int) < (k : Int) := by omega
      have hjl : j < acts.length := by rw [Hk.out]; exact hlt
      have hjk := Hk.out
      have Hs := Lib.hid (st_succ l hjl)
      have Hj := Lib.hid (st_ok Hok.out acts j (by omega))
      have HA := Lib.hid (fun W hW => (HZ.out W hW).at6 hjl rfl)
      obtain ⟨zb, zo, rfl, -, -⟩ := HA.out _ hbw
      generalize acts[j] = x at *
      clear hjk hjl
      obtain ⟨a0, a1, a2, a3, a4, a5⟩ := x
      simp only at HA
      generalize stL l acts j = sj at *
      obtain ⟨A1, n1, c1, B1, m1, d1, D1, q1, e1, hP, hL, hof⟩ := hbox
      have CA := Lib.hid (fun W => (show Calls Try.prog 40 #[.agg #[.int .u8 a0, .int .i64 a1, .int .i64 a2, .int .i64 a3, .int .i64 a4, .int .i64 a5]] W fun r w' => r = .returned (.agg #[.int .u8 a0, .int .i64 a1, .int .i64 a2, .int .i64 a3, .int .i64 a4, .int .i64 a5]) ∧ Below W.heap.size W w' from Act_any ⟨a0, a1, a2, a3, a4, a5⟩ W))
      have CD := Lib.hid (fun W h => Do_any sj ⟨a0, a1, a2, a3, a4, a5⟩ A1 n1 c1 B1 m1 d1 D1 q1 e1 W h)
      have hdf : doF sj ⟨a0, a1, a2, a3, a4, a5⟩ = doL sj ⟨a0, a1, a2, a3, a4, a5⟩ := by unfold doF; rw [ok_iff.2 Hj.out.1]; rfl
      rw [hdf] at CD
      have Hd := Lib.hid (doL_ok Hj.out.1 ⟨a0, a1, a2, a3, a4, a5⟩)
      clear hdf
      generalize doL sj ⟨a0, a1, a2, a3, a4, a5⟩ = nx at *
      obtain ⟨nx, code⟩ := nx
      simp only at Hd Hs CD
      unfold ledV Act.val at CD
      go_upto_region 7 with fail
      have Hp := Lib.hid hP
      have Hl := Lib.hid hL
      go_cut [7, 8] (fun y z W => ∃ N A3 n3 c3 B3 m3 d3 D3 q3 e3, y = .pointer (some ⟨N, 0, none⟩) ∧ z = .int .i64 code ∧ wr.heap.size ≤ N ∧ Blk W N 81 [.slice A3 n3 c3, .slice B3 m3 d3, .int .i64 nx.office, .int .i64 nx.bank, .int .i64 nx.begun, .int .i64 nx.inn, .int .i64 nx.out, .slice D3 q3 e3] ∧ LedM W nx A3 n3 B3 m3 D3 q3 ∧ LedOff P A3 n3 B3 m3 D3 q3 ∧ Below wr.heap.size wr W)
      case first =>
        refine Dr.Any.wp_region_plan 13 (Dr.Any.from_ wr.drew.heap.size) (.q [0, 1, 2, 3, 4] (.e2 5 (.e2 6 (.q [7, 8, 9] (.e1 10 (.e1 11 (.q [12] .done)))) 10 (.e1 6 (.q [7, 8, 9] (.e1 11 (.q [12] .done))))) 10 (.e1 5 (.e1 6 (.q [7, 8, 9] (.e1 11 (.q [12] .done))))))) (by kernel_rfl) (by kernel_rfl) ?_
        have hbd := ext_drew wr
        have hPd := hP.ext hbd
        have hLd := hL.ext hbd
        have hs0 := hbd.size
        clear hP hL
        generalize wr.drew = V0 at *
        have hbv := Below.refl V0.heap.size V0
        have qq0 := Dr.Any.cls_cell (M := Dr.Any.from_ V0.heap.size) (hPd.cell (i := 0) rfl) (by rw [Dr.Any.mem_from]; simp only; omega)
        have qq1 := Dr.Any.cls_cell (M := Dr.Any.from_ V0.heap.size) (hPd.cell (i := 1) rfl) (by rw [Dr.Any.mem_from]; simp only; omega)
        have qq2 := Dr.Any.cls_cell (M := Dr.Any.from_ V0.heap.size) (hPd.cell (i := 2) rfl) (by rw [Dr.Any.mem_from]; simp only; omega)
        have qq3 := Dr.Any.cls_cell (M := Dr.Any.from_ V0.heap.size) (hPd.cell (i := 3) rfl) (by rw [Dr.Any.mem_from]; simp only; omega)
        have qq4 := Dr.Any.cls_cell (M := Dr.Any.from_ V0.heap.size) (hPd.cell (i := 4) rfl) (by rw [Dr.Any.mem_from]; simp only; omega)
        have qq5 := Dr.Any.cls_cell (M := Dr.Any.from_ V0.heap.size) (hPd.cell (i := 5) rfl) (by rw [Dr.Any.mem_from]; simp only; omega)
        have qq6 := Dr.Any.cls_cell (M := Dr.Any.from_ V0.heap.size) (hPd.cell (i := 6) rfl) (by rw [Dr.Any.mem_from]; simp only; omega)
        have qq7 := Dr.Any.cls_cell (M := Dr.Any.from_ V0.heap.size) (hPd.cell (i := 7) rfl) (by rw [Dr.Any.mem_from]; simp only; omega)
        obtain ⟨z1, z2, z3, hz, cc0, cc1, cc2, cc3, cc4, cc5⟩ := HA.out V0 (ext_trans hbw hbd)
        obtain ⟨rfl, rfl⟩ : z1 = zb ∧ z2 = zo := by simpa [eq_comm] using z3
        clear z3
        have vv0 := Dr.Any.cls_cell (M := Dr.Any.from_ V0.heap.size) cc0 (by rw [Dr.Any.mem_from]; simp only; omega)
        have vv1 := Dr.Any.cls_cell (M := Dr.Any.from_ V0.heap.size) cc1 (by rw [Dr.Any.mem_from]; simp only; omega)
        have vv2 := Dr.Any.cls_cell (M := Dr.Any.from_ V0.heap.size) cc2 (by rw [Dr.Any.mem_from]; simp only; omega)
        have vv3 := Dr.Any.cls_cell (M := Dr.Any.from_ V0.heap.size) cc3 (by rw [Dr.Any.mem_from]; simp only; omega)
        have vv4 := Dr.Any.cls_cell (M := Dr.Any.from_ V0.heap.size) cc4 (by rw [Dr.Any.mem_from]; simp only; omega)
        have vv5 := Dr.Any.cls_cell (M := Dr.Any.from_ V0.heap.size) cc5 (by rw [Dr.Any.mem_from]; simp only; omega)
        clear cc0 cc1 cc2 cc3 cc4 cc5
        refine Dr.Any.plan_q (l := [_, _, _, _, _]) rfl (fun K hK => ?_)
        iterate 5 (go_big_quiet_step (fail))
        refine wpQuiet_nil (hK _ ?_); clear hK K
        clear qq0 qq1 qq2 qq3 qq4 qq5 qq6 qq7 vv0 vv1 vv2 vv3 vv4 vv5 hPd
        refine Dr.Any.plan_e2 ?_ ?_
        · skip
          refine Dr.Any.plan_e rfl (by rfl) (fun K hK => ?_)
          go_wp2_with fail
          refine (CA.out _).mono ?_; rintro r V1 ⟨rfl, hbn⟩
          refine hK _ _ (.of hbn) ?_; clear hK K
          replace hLd := hLd.ext hbn
          replace hbv := ext_trans hbv hbn
          have hsV1 := hbn.size
          refine Dr.Any.plan_e2 ?_ ?_
          · skip
            refine Dr.Any.plan_e rfl (by rfl) (fun K hK => ?_)
            go_wp2_with fail
            refine (CD.out _ hLd).mono ?_; rintro r V2 ⟨v6, rfl, ⟨A3, n3, c3, B3, m3, d3, D3, q3, e3, rfl, L6⟩, hbn⟩
            unfold ledV
            refine hK _ _ (.of hbn) ?_; clear hK K
            clear hLd
            replace hbv := ext_trans hbv hbn
            have hsV2 := hbn.size
            refine Dr.Any.plan_q (l := [_, _, _]) rfl (fun K hK => ?_)
            iterate 3 (go_big_quiet_step (fail))
            refine wpQuiet_nil (hK _ ?_); clear hK K
            refine Dr.Any.plan_e rfl (by rfl) (fun K hK => ?_)
            go_wp2_with fail
            refine hK _ _ (.of (ext_alloc _ _)) ?_; clear hK K
            have hP5 := Blk.new V2 81 [.slice none 0 0, .slice none 0 0, .int .i64 0, .int .i64 0, .int .i64 0, .int .i64 0, .int .i64 0, .slice none 0 0]
            have hAl := ext_alloc V2 (.cells #[.slice none 0 0, .slice none 0 0, .int .i64 0, .int .i64 0, .int .i64 0, .int .i64 0, .int .i64 0, .slice none 0 0] 81)
            replace hbv := ext_trans hbv hAl
            have hsV3 := hAl.size
            have hP5g : V0.heap.size ≤ V2.heap.size := by omega
            change Blk (V2.alloc (.cells #[.slice none 0 0, .slice none 0 0, .int .i64 0, .int .i64 0, .int .i64 0, .int .i64 0, .int .i64 0, .slice none 0 0] 81)) _ _ _ at hP5
            have L7 := L6.ext hAl
            clear hAl
            generalize hP5e : V2.heap.size = P5 at *
            generalize V2.alloc (.cells #[.slice none 0 0, .slice none 0 0, .int .i64 0, .int .i64 0, .int .i64 0, .int .i64 0, .int .i64 0, .slice none 0 0] 81) = V3 at *
            have hP5l := hP5.lt
            have y0 : V3.cell? ⟨P5, 0, none⟩ = _ := hP5.cell (i := 0) rfl
            have y1 : V3.cell? ⟨P5, 1, none⟩ = _ := hP5.cell (i := 1) rfl
            have y2 : V3.cell? ⟨P5, 2, none⟩ = _ := hP5.cell (i := 2) rfl
            have y3 : V3.cell? ⟨P5, 3, none⟩ = _ := hP5.cell (i := 3) rfl
            have y4 : V3.cell? ⟨P5, 4, none⟩ = _ := hP5.cell (i := 4) rfl
            have y5 : V3.cell? ⟨P5, 5, none⟩ = _ := hP5.cell (i := 5) rfl
            have y6 : V3.cell? ⟨P5, 6, none⟩ = _ := hP5.cell (i := 6) rfl
            have y7 : V3.cell? ⟨P5, 7, none⟩ = _ := hP5.cell (i := 7) rfl
            have f0 := hP5.free 0
            have f1 := hP5.free 1
            have f2 := hP5.free 2
            have f3 := hP5.free 3
            have f4 := hP5.free 4
            have f5 := hP5.free 5
            have f6 := hP5.free 6
            have f7 := hP5.free 7
            refine Dr.Any.plan_e rfl (by rfl) (fun K hK => ?_)
            go_wp2_with fail
            generalize hWf : World.setCell _ _ (Value.slice D3 q3 e3) = Wf
            have hPf := hP5.put_eq [.slice A3 n3 c3, .slice B3 m3 d3, .int .i64 nx.office, .int .i64 nx.bank, .int .i64 nx.begun, .int .i64 nx.inn, .int .i64 nx.out, .slice D3 q3 e3] hWf rfl
            have hbf : Dr.Bel [P5] V3 Wf := bel_put_eq [.slice A3 n3 c3, .slice B3 m3 d3, .int .i64 nx.office, .int .i64 nx.bank, .int .i64 nx.begun, .int .i64 nx.inn, .int .i64 nx.out, .slice D3 q3 e3] hWf
            clear hWf y0 y1 y2 y3 y4 y5 y6 y7 f0 f1 f2 f3 f4 f5 f6 f7
            refine hK _ _ (bel_any hbf (by rw [Dr.Any.mem_from]; omega)) ?_; clear hK K
            refine Dr.Any.plan_q (l := [_]) rfl (fun K hK => ?_)
            iterate 1 (go_big_quiet_step (fail))
            refine wpQuiet_nil (hK _ ?_); clear hK K
            refine Dr.Any.plan_end rfl ?_
            go_wp2
            go_meet
            case rel => exact ⟨P5, A3, n3, c3, B3, m3, d3, D3, q3, e3, rfl, rfl, by omega, hPf, (L7.bel1 hbf (fun k hk => by have := (L6.fa k hk).2; omega) (fun k hk => by have := (L6.fb k hk).2; omega) (fun k hk => by have := (L6.fd k hk).2; omega)).m, ⟨fun _ h => by have := (L6.fa _ h).1; omega, fun _ h => by have := (L6.fb _ h).1; omega, fun _ h => by have := (L6.fd _ h).1; omega⟩, ext_trans hbd (hbv.trans (hbf.old (by omega) (by simp; omega)))⟩
          · skip
            refine Dr.Any.plan_e rfl (by rfl) (fun K hK => ?_)
            go_wp2_with fail
            refine hK _ _ (.of (ext_alloc _ _)) ?_; clear hK K
            have hP5 := Blk.new V1 81 [.slice none 0 0, .slice none 0 0, .int .i64 0, .int .i64 0, .int .i64 0, .int .i64 0, .int .i64 0, .slice none 0 0]
            have hAl := ext_alloc V1 (.cells #[.slice none 0 0, .slice none 0 0, .int .i64 0, .int .i64 0, .int .i64 0, .int .i64 0, .int .i64 0, .slice none 0 0] 81)
            replace hbv := ext_trans hbv hAl
            have hsV2 := hAl.size
            have hP5g : V0.heap.size ≤ V1.heap.size := by omega
            change Blk (V1.alloc (.cells #[.slice none 0 0, .slice none 0 0, .int .i64 0, .int .i64 0, .int .i64 0, .int .i64 0, .int .i64 0, .slice none 0 0] 81)) _ _ _ at hP5
            replace hLd := hLd.ext hAl
            clear hAl
            generalize hP5e : V1.heap.size = P5 at *
            generalize V1.alloc (.cells #[.slice none 0 0, .slice none 0 0, .int .i64 0, .int .i64 0, .int .i64 0, .int .i64 0, .int .i64 0, .slice none 0 0] 81) = V2 at *
            have hP5l := hP5.lt
            refine Dr.Any.plan_e rfl (by rfl) (fun K hK => ?_)
            go_wp2_with fail
            refine (CD.out _ hLd).mono ?_; rintro r V3 ⟨v6, rfl, ⟨A3, n3, c3, B3, m3, d3, D3, q3, e3, rfl, L6⟩, hbn⟩
            unfold ledV
            refine hK _ _ (.of hbn) ?_; clear hK K
            clear hLd
            replace hbv := ext_trans hbv hbn
            have hsV3 := hbn.size
            replace hP5 := hP5.ext hbn
            refine Dr.Any.plan_q (l := [_, _, _]) rfl (fun K hK => ?_)
            iterate 3 (go_big_quiet_step (fail))
            refine wpQuiet_nil (hK _ ?_); clear hK K
            have y0 : V3.cell? ⟨P5, 0, none⟩ = _ := hP5.cell (i := 0) rfl
            have y1 : V3.cell? ⟨P5, 1, none⟩ = _ := hP5.cell (i := 1) rfl
            have y2 : V3.cell? ⟨P5, 2, none⟩ = _ := hP5.cell (i := 2) rfl
            have y3 : V3.cell? ⟨P5, 3, none⟩ = _ := hP5.cell (i := 3) rfl
            have y4 : V3.cell? ⟨P5, 4, none⟩ = _ := hP5.cell (i := 4) rfl
            have y5 : V3.cell? ⟨P5, 5, none⟩ = _ := hP5.cell (i := 5) rfl
            have y6 : V3.cell? ⟨P5, 6, none⟩ = _ := hP5.cell (i := 6) rfl
            have y7 : V3.cell? ⟨P5, 7, none⟩ = _ := hP5.cell (i := 7) rfl
            have f0 := hP5.free 0
            have f1 := hP5.free 1
            have f2 := hP5.free 2
            have f3 := hP5.free 3
            have f4 := hP5.free 4
            have f5 := hP5.free 5
            have f6 := hP5.free 6
            have f7 := hP5.free 7
            refine Dr.Any.plan_e rfl (by rfl) (fun K hK => ?_)
            go_wp2_with fail
            generalize hWf : World.setCell _ _ (Value.slice D3 q3 e3) = Wf
            have hPf := hP5.put_eq [.slice A3 n3 c3, .slice B3 m3 d3, .int .i64 nx.office, .int .i64 nx.bank, .int .i64 nx.begun, .int .i64 nx.inn, .int .i64 nx.out, .slice D3 q3 e3] hWf rfl
            have hbf : Dr.Bel [P5] V3 Wf := bel_put_eq [.slice A3 n3 c3, .slice B3 m3 d3, .int .i64 nx.office, .int .i64 nx.bank, .int .i64 nx.begun, .int .i64 nx.inn, .int .i64 nx.out, .slice D3 q3 e3] hWf
            clear hWf y0 y1 y2 y3 y4 y5 y6 y7 f0 f1 f2 f3 f4 f5 f6 f7
            refine hK _ _ (bel_any hbf (by rw [Dr.Any.mem_from]; omega)) ?_; clear hK K
            refine Dr.Any.plan_q (l := [_]) rfl (fun K hK => ?_)
            iterate 1 (go_big_quiet_step (fail))
            refine wpQuiet_nil (hK _ ?_); clear hK K
            refine Dr.Any.plan_end rfl ?_
            go_wp2
            go_meet
            case rel => exact ⟨P5, A3, n3, c3, B3, m3, d3, D3, q3, e3, rfl, rfl, by omega, hPf, (L6.bel1 hbf (fun k hk => by have := (L6.fa k hk).1; omega) (fun k hk => by have := (L6.fb k hk).1; omega) (fun k hk => by have := (L6.fd k hk).1; omega)).m, ⟨fun _ h => by have := (L6.fa _ h).1; omega, fun _ h => by have := (L6.fb _ h).1; omega, fun _ h => by have := (L6.fd _ h).1; omega⟩, ext_trans hbd (hbv.trans (hbf.old (by omega) (by simp; omega)))⟩
        · skip
          refine Dr.Any.plan_e rfl (by rfl) (fun K hK => ?_)
          go_wp2_with fail
          refine hK _ _ (.of (ext_alloc _ _)) ?_; clear hK K
          have hP5 := Blk.new V0 81 [.slice none 0 0, .slice none 0 0, .int .i64 0, .int .i64 0, .int .i64 0, .int .i64 0, .int .i64 0, .slice none 0 0]
          have hAl := ext_alloc V0 (.cells #[.slice none 0 0, .slice none 0 0, .int .i64 0, .int .i64 0, .int .i64 0, .int .i64 0, .int .i64 0, .slice none 0 0] 81)
          replace hbv := ext_trans hbv hAl
          have hsV1 := hAl.size
          have hP5g : V0.heap.size ≤ V0.heap.size := by omega
          change Blk (V0.alloc (.cells #[.slice none 0 0, .slice none 0 0, .int .i64 0, .int .i64 0, .int .i64 0, .int .i64 0, .int .i64 0, .slice none 0 0] 81)) _ _ _ at hP5
          replace hLd := hLd.ext hAl
          clear hAl
          obtain ⟨P5, hP5e⟩ : ∃ P5, V0.heap.size = P5 := ⟨_, rfl⟩
          rw [hP5e] at hP5
          generalize V0.alloc (.cells #[.slice none 0 0, .slice none 0 0, .int .i64 0, .int .i64 0, .int .i64 0, .int .i64 0, .int .i64 0, .slice none 0 0] 81) = V1 at *
          rw [hP5e]
          have hP5l := hP5.lt
          refine Dr.Any.plan_e rfl (by rfl) (fun K hK => ?_)
          go_wp2_with fail
          refine (CA.out _).mono ?_; rintro r V2 ⟨rfl, hbn⟩
          refine hK _ _ (.of hbn) ?_; clear hK K
          replace hLd := hLd.ext hbn
          replace hbv := ext_trans hbv hbn
          have hsV2 := hbn.size
          replace hP5 := hP5.ext hbn
          refine Dr.Any.plan_e rfl (by rfl) (fun K hK => ?_)
          go_wp2_with fail
          refine (CD.out _ hLd).mono ?_; rintro r V3 ⟨v6, rfl, ⟨A3, n3, c3, B3, m3, d3, D3, q3, e3, rfl, L6⟩, hbn⟩
          unfold ledV
          refine hK _ _ (.of hbn) ?_; clear hK K
          clear hLd
          replace hbv := ext_trans hbv hbn
          have hsV3 := hbn.size
          replace hP5 := hP5.ext hbn
          refine Dr.Any.plan_q (l := [_, _, _]) rfl (fun K hK => ?_)
          iterate 3 (go_big_quiet_step (fail))
          refine wpQuiet_nil (hK _ ?_); clear hK K
          have y0 : V3.cell? ⟨P5, 0, none⟩ = _ := hP5.cell (i := 0) rfl
          have y1 : V3.cell? ⟨P5, 1, none⟩ = _ := hP5.cell (i := 1) rfl
          have y2 : V3.cell? ⟨P5, 2, none⟩ = _ := hP5.cell (i := 2) rfl
          have y3 : V3.cell? ⟨P5, 3, none⟩ = _ := hP5.cell (i := 3) rfl
          have y4 : V3.cell? ⟨P5, 4, none⟩ = _ := hP5.cell (i := 4) rfl
          have y5 : V3.cell? ⟨P5, 5, none⟩ = _ := hP5.cell (i := 5) rfl
          have y6 : V3.cell? ⟨P5, 6, none⟩ = _ := hP5.cell (i := 6) rfl
          have y7 : V3.cell? ⟨P5, 7, none⟩ = _ := hP5.cell (i := 7) rfl
          have f0 := hP5.free 0
          have f1 := hP5.free 1
          have f2 := hP5.free 2
          have f3 := hP5.free 3
          have f4 := hP5.free 4
          have f5 := hP5.free 5
          have f6 := hP5.free 6
          have f7 := hP5.free 7
          refine Dr.Any.plan_e rfl (by rfl) (fun K hK => ?_)
          go_wp2_with fail
          generalize hWf : World.setCell _ _ (Value.slice D3 q3 e3) = Wf
          have hPf := hP5.put_eq [.slice A3 n3 c3, .slice B3 m3 d3, .int .i64 nx.office, .int .i64 nx.bank, .int .i64 nx.begun, .int .i64 nx.inn, .int .i64 nx.out, .slice D3 q3 e3] hWf rfl
          have hbf : Dr.Bel [P5] V3 Wf := bel_put_eq [.slice A3 n3 c3, .slice B3 m3 d3, .int .i64 nx.office, .int .i64 nx.bank, .int .i64 nx.begun, .int .i64 nx.inn, .int .i64 nx.out, .slice D3 q3 e3] hWf
          clear hWf y0 y1 y2 y3 y4 y5 y6 y7 f0 f1 f2 f3 f4 f5 f6 f7
          refine hK _ _ (bel_any hbf (by rw [Dr.Any.mem_from]; omega)) ?_; clear hK K
          refine Dr.Any.plan_q (l := [_]) rfl (fun K hK => ?_)
          iterate 1 (go_big_quiet_step (fail))
          refine wpQuiet_nil (hK _ ?_); clear hK K
          refine Dr.Any.plan_end rfl ?_
          go_wp2
          go_meet
          case rel => exact ⟨P5, A3, n3, c3, B3, m3, d3, D3, q3, e3, rfl, rfl, by omega, hPf, (L6.bel1 hbf (fun k hk => by have := (L6.fa k hk).1; omega) (fun k hk => by have := (L6.fb k hk).1; omega) (fun k hk => by have := (L6.fd k hk).1; omega)).m, ⟨fun _ h => by have := (L6.fa _ h).1; omega, fun _ h => by have := (L6.fb _ h).1; omega, fun _ h => by have := (L6.fd _ h).1; omega⟩, ext_trans hbd (hbv.trans (hbf.old (by omega) (by simp; omega)))⟩
      case rest =>
        obtain ⟨N, A3, n3, c3, B3, m3, d3, D3, q3, e3, rfl, rfl, hN, hY, hL3, ho3, hb3⟩ := hcut
        generalize wc = V at *
        clear CA CD HA hP hL
        rcases Hd.out with ⟨rfl, hnx, hbg⟩ | ⟨hcode, rfl⟩
        · have Hbg := Lib.hid (hbg.trans Hj.out.2)
          clear hbg
          have hokn := ok_iff.2 hnx
          have CT := Lib.hid (fun W h => TotalP_any nx A3 n3 c3 B3 m3 d3 D3 q3 e3 W h)
          have CK := Lib.hid (fun W h => CheckL_any nx A3 n3 c3 B3 m3 d3 D3 q3 e3 W h)
          have CH := Lib.hid (fun W h => held_any nx A3 n3 c3 B3 m3 d3 D3 q3 e3 W h hnx.mn)
          rw [hokn] at CT CK
          simp only [if_true] at CT CK
          have htot := hnx.tot
          have hi1 := hnx.i
          have ht1 := hnx.t
          have hg1 := hnx.g
          have Hss := Lib.hid (show stL l acts (j + 1) = nx by rw [Hs.out]; rfl)
          have Htot := Lib.hid htot
          unfold ledV at CT CK CH
          generalize nx.total = tot at *
          clear hnx hokn htot Hs Hj Hd
          have hXv := hXr.ext hb3
          have y0 : V.cell? ⟨N, 0, none⟩ = _ := hY.cell (i := 0) rfl
          have y1 : V.cell? ⟨N, 1, none⟩ = _ := hY.cell (i := 1) rfl
          have y2 : V.cell? ⟨N, 2, none⟩ = _ := hY.cell (i := 2) rfl
          have y3 : V.cell? ⟨N, 3, none⟩ = _ := hY.cell (i := 3) rfl
          have y4 : V.cell? ⟨N, 4, none⟩ = _ := hY.cell (i := 4) rfl
          have y5 : V.cell? ⟨N, 5, none⟩ = _ := hY.cell (i := 5) rfl
          have y6 : V.cell? ⟨N, 6, none⟩ = _ := hY.cell (i := 6) rfl
          have y7 : V.cell? ⟨N, 7, none⟩ = _ := hY.cell (i := 7) rfl
          go_upto_region 11 with fail
          go_wp2_with fail
          refine (CT.out _ hL3).mono ?_; rintro r V1 ⟨rfl, hb4⟩
          have hY1 := hY.ext hb4
          have hL4 := hL3.ext hb4
          have hX5 := hXv.ext hb4
          have hb5 := ext_trans hb3 hb4
          clear hY hL3 hXv hb3 hb4 y0 y1 y2 y3 y4 y5 y6 y7 CT
          go_upto_region 12 with fail
          have y0 : V1.cell? ⟨N, 0, none⟩ = _ := hY1.cell (i := 0) rfl
          have y1 : V1.cell? ⟨N, 1, none⟩ = _ := hY1.cell (i := 1) rfl
          have y2 : V1.cell? ⟨N, 2, none⟩ = _ := hY1.cell (i := 2) rfl
          have y3 : V1.cell? ⟨N, 3, none⟩ = _ := hY1.cell (i := 3) rfl
          have y4 : V1.cell? ⟨N, 4, none⟩ = _ := hY1.cell (i := 4) rfl
          have y5 : V1.cell? ⟨N, 5, none⟩ = _ := hY1.cell (i := 5) rfl
          have y6 : V1.cell? ⟨N, 6, none⟩ = _ := hY1.cell (i := 6) rfl
          have y7 : V1.cell? ⟨N, 7, none⟩ = _ := hY1.cell (i := 7) rfl
          go_wp2_with fail
          refine (CK.out _ hL4).mono ?_; rintro r V2 ⟨rfl, hb4⟩
          have hY2 := hY1.ext hb4
          have hL5 := hL4.ext hb4
          have hX6 := hX5.ext hb4
          have hb6 := ext_trans hb5 hb4
          clear hY1 hL4 hX5 hb5 hb4 y0 y1 y2 y3 y4 y5 y6 y7 CK
          have y0 : V2.cell? ⟨N, 0, none⟩ = _ := hY2.cell (i := 0) rfl
          have y1 : V2.cell? ⟨N, 1, none⟩ = _ := hY2.cell (i := 1) rfl
          have y2 : V2.cell? ⟨N, 2, none⟩ = _ := hY2.cell (i := 2) rfl
          have y3 : V2.cell? ⟨N, 3, none⟩ = _ := hY2.cell (i := 3) rfl
          have y4 : V2.cell? ⟨N, 4, none⟩ = _ := hY2.cell (i := 4) rfl
          have y5 : V2.cell? ⟨N, 5, none⟩ = _ := hY2.cell (i := 5) rfl
          have y6 : V2.cell? ⟨N, 6, none⟩ = _ := hY2.cell (i := 6) rfl
          have y7 : V2.cell? ⟨N, 7, none⟩ = _ := hY2.cell (i := 7) rfl
          go_wp2_with fail
          refine (CH.out _ hL5).mono ?_; rintro r V3 ⟨rfl, hb4⟩
          have hY3 := hY2.ext hb4
          have hL6 := hL5.ext hb4
          have hX7 := hX6.ext hb4
          have hb7 := ext_trans hb6 hb4
          clear hY2 hL5 hX6 hb6 hb4 y0 y1 y2 y3 y4 y5 y6 y7 CH
          have y0 : V3.cell? ⟨N, 0, none⟩ = _ := hY3.cell (i := 0) rfl
          have y1 : V3.cell? ⟨N, 1, none⟩ = _ := hY3.cell (i := 1) rfl
          have y2 : V3.cell? ⟨N, 2, none⟩ = _ := hY3.cell (i := 2) rfl
          have y3 : V3.cell? ⟨N, 3, none⟩ = _ := hY3.cell (i := 3) rfl
          have y4 : V3.cell? ⟨N, 4, none⟩ = _ := hY3.cell (i := 4) rfl
          have y5 : V3.cell? ⟨N, 5, none⟩ = _ := hY3.cell (i := 5) rfl
          have y6 : V3.cell? ⟨N, 6, none⟩ = _ := hY3.cell (i := 6) rfl
          have y7 : V3.cell? ⟨N, 7, none⟩ = _ := hY3.cell (i := 7) rfl
          have x4 : V3.cell? ⟨w.heap.size, 4, none⟩ = _ := hX7.cell (i := 4) rfl
          rw [← Hbg.out] at x4
          obtain rfl := Htot.out
          clear Htot
          go_upto_region 14 with fail
          clear x4
          have hPv := Hp.out.ext hb7
          clear Hp Hl
          have p0 : V3.cell? ⟨P, 0, none⟩ = _ := hPv.cell (i := 0) rfl
          have p1 : V3.cell? ⟨P, 1, none⟩ = _ := hPv.cell (i := 1) rfl
          have p2 : V3.cell? ⟨P, 2, none⟩ = _ := hPv.cell (i := 2) rfl
          have p3 : V3.cell? ⟨P, 3, none⟩ = _ := hPv.cell (i := 3) rfl
          have p4 : V3.cell? ⟨P, 4, none⟩ = _ := hPv.cell (i := 4) rfl
          have p5 : V3.cell? ⟨P, 5, none⟩ = _ := hPv.cell (i := 5) rfl
          have p6 : V3.cell? ⟨P, 6, none⟩ = _ := hPv.cell (i := 6) rfl
          have p7 : V3.cell? ⟨P, 7, none⟩ = _ := hPv.cell (i := 7) rfl
          have f0 := hPv.free 0
          have f1 := hPv.free 1
          have f2 := hPv.free 2
          have f3 := hPv.free 3
          have f4 := hPv.free 4
          have f5 := hPv.free 5
          have f6 := hPv.free 6
          have f7 := hPv.free 7
          go_wp2
          generalize hWf : World.setCell _ _ (Value.slice D3 q3 e3) = Wf
          have hPf := hPv.put_eq [.slice A3 n3 c3, .slice B3 m3 d3, .int .i64 nx.office, .int .i64 nx.bank, .int .i64 nx.begun, .int .i64 nx.inn, .int .i64 nx.out, .slice D3 q3 e3] hWf rfl
          have hbf : Dr.Bel [P] V3 Wf := bel_put_eq [.slice A3 n3 c3, .slice B3 m3 d3, .int .i64 nx.office, .int .i64 nx.bank, .int .i64 nx.begun, .int .i64 nx.inn, .int .i64 nx.out, .slice D3 q3 e3] hWf
          clear hWf p0 p1 p2 p3 p4 p5 p6 p7 f0 f1 f2 f3 f4 f5 f6 f7 y0 y1 y2 y3 y4 y5 y6 y7
          have hbx : BoxL Wf P nx := ⟨A3, n3, c3, B3, m3, d3, D3, q3, e3, hPf, hL6.bel1 ho3 hbf, ho3⟩
          go_roundw
          case rel => exact ⟨j + 1, by go_num, by omega, by rw [Hss.out]; exact hbx, (hb.then_below (hb7.mono hb.size)).trans hbf⟩
          case measure => simp [intOf]; omega
        · have Hss := Lib.hid (show stL l acts (j + 1) = sj by rw [Hs.out, if_neg hcode])
          have hn0 : n3 = 0 := hL3.hn.symm
          have hm0 : m3 = 0 := hL3.hm.symm
          have hq0 : q3 = 0 := hL3.hq.symm
          subst hn0 hm0 hq0
          have CAl := Lib.hid (fun W h => alike_self Led.zero A3 0 c3 B3 0 d3 D3 0 e3 none 0 none 0 none 0 W h (lz_m W))
          unfold ledV at CAl
          simp only [Led.zero] at CAl hY
          have hce : (code == 0) = false := by simpa using hcode
          have hbx : BoxL wr P sj := ⟨A1, n1, c1, B1, m1, d1, D1, q1, e1, Hp.out, Hl.out, hof⟩
          clear Hs Hj Hd Hp Hl
          have y0 : V.cell? ⟨N, 0, none⟩ = _ := hY.cell (i := 0) rfl
          have y1 : V.cell? ⟨N, 1, none⟩ = _ := hY.cell (i := 1) rfl
          have y2 : V.cell? ⟨N, 2, none⟩ = _ := hY.cell (i := 2) rfl
          have y3 : V.cell? ⟨N, 3, none⟩ = _ := hY.cell (i := 3) rfl
          have y4 : V.cell? ⟨N, 4, none⟩ = _ := hY.cell (i := 4) rfl
          have y5 : V.cell? ⟨N, 5, none⟩ = _ := hY.cell (i := 5) rfl
          have y6 : V.cell? ⟨N, 6, none⟩ = _ := hY.cell (i := 6) rfl
          have y7 : V.cell? ⟨N, 7, none⟩ = _ := hY.cell (i := 7) rfl
          go_wp2_with fail
          refine (CAl.out _ hL3).mono ?_; rintro r V1 ⟨rfl, hb4⟩
          have hb5 := ext_trans hb3 hb4
          clear y0 y1 y2 y3 y4 y5 y6 y7 hY
          go_wp2
          go_roundw
          case rel => exact ⟨j + 1, by go_num, by omega, by rw [Hss.out]; exact hbx.ext hb5, hb.then_below (hb5.mono hb.size)⟩
          case measure => simp [intOf]; omega
    · obtain rfl : j = k := by omega
      have hst := st_all l acts
      rw [Hk.out] at hst
      rw [hst] at hbox
      clear hst
      obtain ⟨A1, n1, c1, B1, m1, d1, D1, q1, e1, hP, hL, hof⟩ := hbox
      have hrr : runR l acts = ((runL l acts).1, (runL l acts).2, 0) := by unfold runR; rw [ok_iff.2 Hok.out, Hk.out]; rw [if_neg (by simp), if_neg (by omega)]
      have CRun := Lib.hid (fun A c B d D e W hL Z kc hZ => Run_any l A n c B m d D q e W hL acts Z j kc Hk.out (by omega) hZ)
      rw [hrr] at CRun
      simp only at CRun
      have Hlen := Lib.hid ((runL_len acts l).trans Hk.out)
      have CAc := Lib.hid (fun Z kc W hZ => Acts_any acts Z j kc W Hk.out (by omega) hZ)
      clear hrr
      generalize (runL l acts).1 = fl at *
      generalize (runL l acts).2 = es at *
      unfold ledV at CRun
      have hM := HM.out _ hbw (by omega) (by omega) (by omega)
      have hZr := HZ.out _ hbw
      have x0 : wr.cell? ⟨w.heap.size, 0, none⟩ = _ := hXr.cell (i := 0) rfl
      have x1 : wr.cell? ⟨w.heap.size, 1, none⟩ = _ := hXr.cell (i := 1) rfl
      have x2 : wr.cell? ⟨w.heap.size, 2, none⟩ = _ := hXr.cell (i := 2) rfl
      have x3 : wr.cell? ⟨w.heap.size, 3, none⟩ = _ := hXr.cell (i := 3) rfl
      have x4 : wr.cell? ⟨w.heap.size, 4, none⟩ = _ := hXr.cell (i := 4) rfl
      have x5 : wr.cell? ⟨w.heap.size, 5, none⟩ = _ := hXr.cell (i := 5) rfl
      have x6 : wr.cell? ⟨w.heap.size, 6, none⟩ = _ := hXr.cell (i := 6) rfl
      have x7 : wr.cell? ⟨w.heap.size, 7, none⟩ = _ := hXr.cell (i := 7) rfl
      go_upto_region 15 with fail
      go_wp2_with fail
      refine (CL.out _ hM).mono ?_; rintro r V1 ⟨A4, c4, B4, d4, D4, e4, rfl, hL4, hb4⟩
      have hbv := ext_trans hbw hb4
      have hP1 := hP.ext hb4
      have hL1 := hL.ext hb4
      have hZ1 := hZr.ext hb4
      clear x0 x1 x2 x3 x4 x5 x6 x7 hM hZr hP hL hbw hb4 CL
      go_wp2_with fail
      refine (CAc.out _ _ _ hZ1).mono ?_; rintro r V2 ⟨va, rfl, ⟨Q, qc, rfl, -, -, hQ, -⟩, hb4⟩
      rw [Hk.out]
      have hbv2 := ext_trans hbv hb4
      have hP2 := hP1.ext hb4
      have hL2 := hL1.ext hb4
      have hL5 := hL4.ext hb4
      clear hZ1 hP1 hL1 hbv hb4 hL4 CAc
      go_wp2_with fail
      refine (CRun.out _ _ _ _ _ _ _ hL5 _ _ hQ).mono ?_; rintro r V3 ⟨vr, ve, rfl, ⟨A5, n5, c5, B5, m5, d5, D5, q5, e5, rfl, hL6⟩, ⟨E, ec, rfl, -, -, -, -⟩, hb4⟩
      unfold ledV
      rw [Hlen.out]
      have hbv3 := ext_trans hbv2 hb4
      have hP3 := hP2.ext hb4
      have hL3 := hL2.ext hb4
      have hal := ext_alloc V3 (.cells #[.slice A5 n5 c5, .slice B5 m5 d5, .int .i64 fl.office, .int .i64 fl.bank, .int .i64 fl.begun, .int .i64 fl.inn, .int .i64 fl.out, .slice D5 q5 e5] 81)
      have hY0 := Blk.new V3 81 [.slice A5 n5 c5, .slice B5 m5 d5, .int .i64 fl.office, .int .i64 fl.bank, .int .i64 fl.begun, .int .i64 fl.inn, .int .i64 fl.out, .slice D5 q5 e5]
      have hP4 := hP3.ext hal
      have hL4 := hL3.ext hal
      have hL7 := hL6.m.ext hal
      have hbv4 := ext_trans hbv3 hal
      clear hbv2 hb4 hP2 hL2 hL5 hQ CRun hbv3 hP3 hL3 hL6
      go_upto_region 16 with fail
      change Blk (V3.alloc (.cells #[.slice A5 n5 c5, .slice B5 m5 d5, .int .i64 fl.office, .int .i64 fl.bank, .int .i64 fl.begun, .int .i64 fl.inn, .int .i64 fl.out, .slice D5 q5 e5] 81)) _ _ _ at hY0
      clear hal
      generalize V3.heap.size = Y at *
      generalize V3.alloc (.cells #[.slice A5 n5 c5, .slice B5 m5 d5, .int .i64 fl.office, .int .i64 fl.bank, .int .i64 fl.begun, .int .i64 fl.inn, .int .i64 fl.out, .slice D5 q5 e5] 81) = V4 at *
      obtain rfl : n1 = n5 := hL4.hn.symm.trans hL7.hn
      obtain rfl : m1 = m5 := hL4.hm.symm.trans hL7.hm
      obtain rfl : q1 = q5 := hL4.hq.symm.trans hL7.hq
      have CAl := Lib.hid (alike_self fl A5 n1 c5 B5 m1 d5 D5 q1 e5 A1 c1 B1 d1 D1 e1 V4 hL7 hL4)
      unfold ledV at CAl
      clear hL7 hL4
      have y0 : V4.cell? ⟨Y, 0, none⟩ = _ := hY0.cell (i := 0) rfl
      have y1 : V4.cell? ⟨Y, 1, none⟩ = _ := hY0.cell (i := 1) rfl
      have y2 : V4.cell? ⟨Y, 2, none⟩ = _ := hY0.cell (i := 2) rfl
      have y3 : V4.cell? ⟨Y, 3, none⟩ = _ := hY0.cell (i := 3) rfl
      have y4 : V4.cell? ⟨Y, 4, none⟩ = _ := hY0.cell (i := 4) rfl
      have y5 : V4.cell? ⟨Y, 5, none⟩ = _ := hY0.cell (i := 5) rfl
      have y6 : V4.cell? ⟨Y, 6, none⟩ = _ := hY0.cell (i := 6) rfl
      have y7 : V4.cell? ⟨Y, 7, none⟩ = _ := hY0.cell (i := 7) rfl
      have p0 : V4.cell? ⟨P, 0, none⟩ = _ := hP4.cell (i := 0) rfl
      have p1 : V4.cell? ⟨P, 1, none⟩ = _ := hP4.cell (i := 1) rfl
      have p2 : V4.cell? ⟨P, 2, none⟩ = _ := hP4.cell (i := 2) rfl
      have p3 : V4.cell? ⟨P, 3, none⟩ = _ := hP4.cell (i := 3) rfl
      have p4 : V4.cell? ⟨P, 4, none⟩ = _ := hP4.cell (i := 4) rfl
      have p5 : V4.cell? ⟨P, 5, none⟩ = _ := hP4.cell (i := 5) rfl
      have p6 : V4.cell? ⟨P, 6, none⟩ = _ := hP4.cell (i := 6) rfl
      have p7 : V4.cell? ⟨P, 7, none⟩ = _ := hP4.cell (i := 7) rfl
      go_wp2_with fail
      refine CAl.out.mono ?_; rintro r V5 ⟨rfl, hb4⟩
      have hbv5 := ext_trans hbv4 hb4
      clear y0 y1 y2 y3 y4 y5 y6 y7 p0 p1 p2 p3 p4 p5 p6 p7 CAl hY0 hP4
      go_wp2_with fail
      refine (awake_any _).mono ?_; rintro r wz ⟨rfl, hbz⟩
      go_wp2
      go_ret
      exact ⟨rfl, ext_trans hbv5 hbz⟩
end Go.Proofs.Ytnjdlhhgnamigaa

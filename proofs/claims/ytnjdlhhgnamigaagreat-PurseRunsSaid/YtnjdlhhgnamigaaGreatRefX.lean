/- Walk: the reference of acts: small words, bank, counter, pack, way, Copy, Do. -/
import Derived.Test.YtnjdlhhgnamigaaGreatLedR
import Derived.Test.YtnjdlhhgnamigaaGreatLgnA
import Derived.Test.YtnjdlhhgnamigaaGreatLgnE
import Derived.Test.YtnjdlhhgnamigaaGreatTooA
/- Walk: the reference's small words on acts; a ledger that it changes, in memory. -/
namespace Go.Pu
open Go.Pl
/-- is no amount above the most? -/
def Led.lowB (l : Led) : Bool := l.windows.all (fun x => decide (x ≤ 1000000000000)) && (decide (l.office ≤ 1000000000000) && (decide (l.bank ≤ 1000000000000) && (decide (l.inn ≤ 1000000000000) && decide (l.out ≤ 1000000000000))))
end Go.Pu
namespace Go.Proofs.YtnjdlhhgnamigaaGreat
open Go.RowKit Go.Bs Go.Pu Go.Pl Go.Sort
theorem amountR_any (a : Pu.Act) (w : World) : Calls Tryz.prog 60 #[Act.val a] w fun r w' => r = .returned (.bool a.amB) ∧ Below w.heap.size w w' := by
  have C1 := Lib.hid (fun W => In_any a.amount 1 1000000000000 W)
  unfold Act.amB
  generalize decide (1 ≤ a.amount ∧ a.amount ≤ 1000000000000) = b at *
  obtain ⟨a0, a1, a2, a3, a4, a5⟩ := a
  unfold Act.val
  simp only at C1 ⊢
  have hb0 := ext_alloc w (.cells #[.int .u8 a0, .int .i64 a1, .int .i64 a2, .int .i64 a3, .int .i64 a4, .int .i64 a5] 48)
  go_enter Tryz.func60, Tryz.ntmps60
  go_wp2_with fail
  refine (C1.out _).mono ?_; rintro r w1 ⟨rfl, rfl⟩
  go_wp2
  go_ret
  exact ⟨rfl, hb0⟩
theorem sealR_any (a : Pu.Act) (w : World) : Calls Tryz.prog 61 #[Act.val a] w fun r w' => r = .returned (.bool (sealB a.sl)) ∧ Below w.heap.size w w' := by
  have C1 := Lib.hid (fun W => In_any a.sl 1 1000000 W)
  unfold sealB
  generalize decide (1 ≤ a.sl ∧ a.sl ≤ 1000000) = b at *
  obtain ⟨a0, a1, a2, a3, a4, a5⟩ := a
  unfold Act.val
  simp only at C1 ⊢
  have hb0 := ext_alloc w (.cells #[.int .u8 a0, .int .i64 a1, .int .i64 a2, .int .i64 a3, .int .i64 a4, .int .i64 a5] 48)
  go_enter Tryz.func61, Tryz.ntmps61
  go_wp2_with fail
  refine (C1.out _).mono ?_; rintro r w1 ⟨rfl, rfl⟩
  go_wp2
  go_ret
  exact ⟨rfl, hb0⟩
theorem windowR_any (l : Led) (a : Pu.Act) (A : Option Addr) (n c : Nat) (B : Option Addr) (m d : Nat) (D : Option Addr) (q e : Nat) (w : World) (hn : l.windows.length = n) (h9 : n ≤ 1000) :
    Calls Tryz.prog 59 #[ledV A n c B m d l.office l.bank l.begun l.inn l.out D q e, Act.val a] w fun r w' => r = .returned (.bool (l.winB a.window)) ∧ Below w.heap.size w w' := by
  have C1 := Lib.hid (fun W => In_any a.window 0 ((n : Int) - 1) W)
  unfold Led.winB
  rw [hn]
  clear hn
  generalize decide (0 ≤ a.window ∧ a.window ≤ (n : Int) - 1) = b at *
  obtain ⟨a0, a1, a2, a3, a4, a5⟩ := a
  unfold Act.val ledV
  simp only at C1 ⊢
  have hb0 := ext_alloc w (.cells #[.slice A n c, .slice B m d, .int .i64 l.office, .int .i64 l.bank, .int .i64 l.begun, .int .i64 l.inn, .int .i64 l.out, .slice D q e] 26)
  have hb1 := ext_alloc (w.alloc (.cells #[.slice A n c, .slice B m d, .int .i64 l.office, .int .i64 l.bank, .int .i64 l.begun, .int .i64 l.inn, .int .i64 l.out, .slice D q e] 26)) (.cells #[.int .u8 a0, .int .i64 a1, .int .i64 a2, .int .i64 a3, .int .i64 a4, .int .i64 a5] 48)
  have hb2 := ext_trans hb0 hb1
  clear hb0 hb1
  go_enter Tryz.func59, Tryz.ntmps59
  go_wp2_with fail
  refine (C1.out _).mono ?_; rintro r w1 ⟨rfl, rfl⟩
  go_wp2
  go_ret
  exact ⟨rfl, hb2⟩
set_option maxRecDepth 100000 in
theorem above_any (l : Led) (A : Option Addr) (n c : Nat) (B : Option Addr) (m d : Nat) (D : Option Addr) (q e : Nat) (w : World) (hn : l.windows.length = n) (h9 : n ≤ 1000) (hA : Cells w A 1 encI l.windows) :
    Calls Tryz.prog 39 #[ledV A n c B m d l.office l.bank l.begun l.inn l.out D q e] w fun r w' => r = .returned (.int .i64 (if l.lowB then 0 else 3)) ∧ Below w.heap.size w w' := by
  have hb0 := ext_alloc w (.cells #[.slice A n c, .slice B m d, .int .i64 l.office, .int .i64 l.bank, .int .i64 l.begun, .int .i64 l.inn, .int .i64 l.out, .slice D q e] 26)
  have hX := Blk.new w 26 [.slice A n c, .slice B m d, .int .i64 l.office, .int .i64 l.bank, .int .i64 l.begun, .int .i64 l.inn, .int .i64 l.out, .slice D q e]
  have hA0 := hA.ext hb0
  unfold ledV
  have Hn := Lib.hid hn
  obtain ⟨res, hres⟩ : ∃ x : Int, (if l.lowB then 0 else 3) = x := ⟨_, rfl⟩
  rw [hres]
  have Hres := Lib.hid hres
  clear hn hA hres
  go_enter Tryz.func39, Tryz.ntmps39
  go_upto_region 1 with fail
  change Blk (w.alloc (.cells #[.slice A n c, .slice B m d, .int .i64 l.office, .int .i64 l.bank, .int .i64 l.begun, .int .i64 l.inn, .int .i64 l.out, .slice D q e] 26)) _ _ _ at hX
  generalize w.alloc (.cells #[.slice A n c, .slice B m d, .int .i64 l.office, .int .i64 l.bank, .int .i64 l.begun, .int .i64 l.inn, .int .i64 l.out, .slice D q e] 26) = W0 at *
  have x0 : W0.cell? ⟨w.heap.size, 0, none⟩ = _ := hX.cell (i := 0) rfl
  have x2 : W0.cell? ⟨w.heap.size, 2, none⟩ = _ := hX.cell (i := 2) rfl
  have x3 : W0.cell? ⟨w.heap.size, 3, none⟩ = _ := hX.cell (i := 3) rfl
  have x5 : W0.cell? ⟨w.heap.size, 5, none⟩ = _ := hX.cell (i := 5) rfl
  have x6 : W0.cell? ⟨w.heap.size, 6, none⟩ = _ := hX.cell (i := 6) rfl
  go_wp2
  go_loopw [3] (fun x wr => ∃ k : Nat, x = .int .i64 k ∧ k ≤ n ∧ Hid (∀ i (hi : i < l.windows.length), i < k → l.windows[i] ≤ 1000000000000) ∧ W0 = wr) (fun x _ => n - (intOf x).toNat)
  case atStart => exact ⟨0, rfl, by omega, Lib.hid (fun i hi h => by omega), rfl⟩
  case round =>
    obtain ⟨k, rfl, hk, Hk, rfl⟩ := hrel
    by_cases hlt : k < n
    · have hlt' : (k : Int) < n := by omega
      have hk1 : k < l.windows.length := by rw [Hn.out]; exact hlt
      obtain ⟨o, p, rfl, -, c0⟩ := hA0.at1 hk1 rfl
      by_cases hgt : 1000000000000 < l.windows[k]
      · have HY := Lib.hid (show (3 : Int) = res by
          rw [← Hres.out]
          have : l.lowB = false := by
            unfold Led.lowB
            have : l.windows.all (fun x => decide (x ≤ 1000000000000)) = false := by rw [List.all_eq_false]; exact ⟨_, List.getElem_mem hk1, by simp; omega⟩
            rw [this]; rfl
          rw [this]; rfl)
        generalize l.windows[k] = y at *
        go_wp2
        go_ret
        exact ⟨ret_congr (int_congr HY.out), hb0⟩
      · have HN := Lib.hid (fun i (hi : i < l.windows.length) (hik : i < k + 1) => if e : i < k then Hk.out i hi e else (show l.windows[i] ≤ 1000000000000 by have e2 : i = k := (by omega); subst e2; omega))
        generalize l.windows[k] = y at *
        go_wp2
        go_roundw
        case rel => exact ⟨k + 1, by go_num, by omega, HN, trivial⟩
        case measure => simp [intOf]; omega
    · obtain rfl : k = n := by omega
      have hw : l.windows.all (fun x => decide (x ≤ 1000000000000)) = true := by
        rw [List.all_eq_true]
        intro y hy
        obtain ⟨i, hi, rfl⟩ := List.getElem_of_mem hy
        exact decide_eq_true (Hk.out i hi (by rw [← Hn.out]; exact hi))
      have hr := Hres.out
      unfold Led.lowB at hr
      rw [hw, Bool.true_and] at hr
      have Hr := Lib.hid hr
      clear hr hw Hres
      by_cases h1 : 1000000000000 < l.office
      · have HY := Lib.hid (show (3 : Int) = res by rw [← Hr.out]; rw [decide_eq_false (show ¬ l.office ≤ 1000000000000 by omega)]; rfl)
        go_wp2
        go_ret
        exact ⟨ret_congr (int_congr HY.out), hb0⟩
      by_cases h2 : 1000000000000 < l.bank
      · have HY := Lib.hid (show (3 : Int) = res by rw [← Hr.out]; rw [decide_eq_false (show ¬ l.bank ≤ 1000000000000 by omega)]; simp)
        go_wp2
        go_ret
        exact ⟨ret_congr (int_congr HY.out), hb0⟩
      by_cases h3 : 1000000000000 < l.inn
      · have HY := Lib.hid (show (3 : Int) = res by rw [← Hr.out]; rw [decide_eq_false (show ¬ l.inn ≤ 1000000000000 by omega)]; simp)
        go_wp2
        go_ret
        exact ⟨ret_congr (int_congr HY.out), hb0⟩
      by_cases h4 : 1000000000000 < l.out
      · have HY := Lib.hid (show (3 : Int) = res by rw [← Hr.out]; rw [decide_eq_false (show ¬ l.out ≤ 1000000000000 by omega)]; simp)
        go_wp2
        go_ret
        exact ⟨ret_congr (int_congr HY.out), hb0⟩
      have HY := Lib.hid (show (0 : Int) = res by
        rw [← Hr.out, decide_eq_true (show l.office ≤ 1000000000000 by omega), decide_eq_true (show l.bank ≤ 1000000000000 by omega), decide_eq_true (show l.inn ≤ 1000000000000 by omega), decide_eq_true (show l.out ≤ 1000000000000 by omega)]; rfl)
      go_wp2
      go_ret
      exact ⟨ret_congr (int_congr HY.out), hb0⟩
/-- the cells of a ledger -/
def rlC (vw vb vd : Value) (l : Led) : List Value := [vw, vb, .int .i64 l.office, .int .i64 l.bank, .int .i64 l.begun, .int .i64 l.inn, .int .i64 l.out, vd]
/-- a ledger that the reference changes, in memory -/
structure RefM (base : Nat) (w : World) (P : Nat) (A : Option Addr) (n c : Nat) (B : Option Addr) (m d : Nat) (D : Option Addr) (q e : Nat) (l : Led) : Prop where
  blk : Blk w P 26 (rlC (.slice A n c) (.slice B m d) (.slice D q e) l)
  hn : l.windows.length = n
  hm : l.bags.length = m
  hq : l.diffs.length = q
  n9 : n ≤ 1000
  m9 : m ≤ 1000
  q9 : q ≤ 1000
  ow : OwnL w base 3 1 encI (.slice A n c) l.windows
  ob : OwnL w base 83 6 Bag.enc (.slice B m d) l.bags
  od : OwnL w base 84 3 Dif.enc (.slice D q e) l.diffs
  pw : (Value.slice A n c).ownBlock ≠ some P
  pb : (Value.slice B m d).ownBlock ≠ some P
  pd : (Value.slice D q e).ownBlock ≠ some P
  wb : ∀ k, (Value.slice A n c).ownBlock = some k → (Value.slice B m d).ownBlock ≠ some k
  wd : ∀ k, (Value.slice A n c).ownBlock = some k → (Value.slice D q e).ownBlock ≠ some k
  bd : ∀ k, (Value.slice B m d).ownBlock = some k → (Value.slice D q e).ownBlock ≠ some k
  hP : base ≤ P
section
variable {base g : Nat} {w w' : World} {P : Nat} {A : Option Addr} {n c : Nat} {B : Option Addr} {m d : Nat} {D : Option Addr} {q e : Nat} {l : Led}
theorem RefM.ext (h : RefM base w P A n c B m d D q e l) (hb : Below w.heap.size w w') : RefM base w' P A n c B m d D q e l :=
  ⟨h.blk.ext hb, h.hn, h.hm, h.hq, h.n9, h.m9, h.q9, h.ow.ext hb, h.ob.ext hb, h.od.ext hb, h.pw, h.pb, h.pd, h.wb, h.wd, h.bd, h.hP⟩
theorem RefM.led (h : RefM base w P A n c B m d D q e l) : LedM w l A n B m D q := by
  obtain ⟨_, _, h1, -, -, h2⟩ := h.ow.cells encI_len
  obtain ⟨_, _, h3, -, -, h4⟩ := h.ob.cells bag_len
  obtain ⟨_, _, h5, -, -, h6⟩ := h.od.cells dif_len
  cases h1; cases h3; cases h5
  exact ⟨h.hn, h.hm, h.hq, h.n9, h.m9, h.q9, h2, h4, h6⟩
/-- a store into the ledger's own block -/
theorem RefM.put (h : RefM base w P A n c B m d D q e l) (i : Nat) (u : Value) (l' : Led) (hc : (rlC (.slice A n c) (.slice B m d) (.slice D q e) l).set i u = rlC (.slice A n c) (.slice B m d) (.slice D q e) l')
    (h1 : l'.windows = l.windows) (h2 : l'.bags = l.bags) (h3 : l'.diffs = l.diffs) : RefM base (w.setCell ⟨P, i, none⟩ u) P A n c B m d D q e l' := by
  refine ⟨?_, by rw [h1]; exact h.hn, by rw [h2]; exact h.hm, by rw [h3]; exact h.hq, h.n9, h.m9, h.q9, ?_, ?_, ?_, h.pw, h.pb, h.pd, h.wb, h.wd, h.bd, h.hP⟩
  · rw [← hc]; exact h.blk.set i u
  · rw [h1]; exact h.ow.put h.pw u
  · rw [h2]; exact h.ob.put h.pb u
  · rw [h3]; exact h.od.put h.pd u
theorem RefM.putW (h : RefM base w P (some ⟨g, 0, none⟩) n c B m d D q e l) {i : Nat} (hi : i < n) (x : Int) : RefM base (w.setCell ⟨g, i, none⟩ (.int .i64 x)) P (some ⟨g, 0, none⟩) n c B m d D q e { l with windows := l.windows.set i x } := by
  have e1 : (Value.slice (some ⟨g, 0, none⟩) n c).ownBlock = some g := rfl
  refine ⟨?_, by simp [h.hn], h.hm, h.hq, h.n9, h.m9, h.q9, h.ow.set1 (by rw [h.hn]; exact hi) x, h.ob.put (h.wb g e1) _, h.od.put (h.wd g e1) _, h.pw, h.pb, h.pd, h.wb, h.wd, h.bd, h.hP⟩
  exact h.blk.other (fun e => h.pw (by rw [e1, e])) _
theorem RefM.putB (h : RefM base w P A n c (some ⟨g, 0, none⟩) m d D q e l) {i j : Nat} (hi : i < m) (hj : j < 6) (x : Bag) (u : Value) (he : Bag.enc x = (Bag.enc (l.bags[i]'(by rw [h.hm]; exact hi))).set j u) : RefM base (w.setCell ⟨g, i * 6 + j, none⟩ u) P A n c (some ⟨g, 0, none⟩) m d D q e { l with bags := l.bags.set i x } := by
  have e1 : (Value.slice (some ⟨g, 0, none⟩) m d).ownBlock = some g := rfl
  refine ⟨?_, h.hn, by simp [h.hm], h.hq, h.n9, h.m9, h.q9, h.ow.put (fun e => h.wb g e e1) _, OwnL.setAt bag_len h.ob (by rw [h.hm]; exact hi) hj x u he, h.od.put (h.bd g e1) _, h.pw, h.pb, h.pd, h.wb, h.wd, h.bd, h.hP⟩
  exact h.blk.other (fun e => h.pb (by rw [e1, e])) _
end
end Go.Proofs.YtnjdlhhgnamigaaGreat

/- Walk: bank, of the reference. -/
namespace Go.Pu
open Go.Pl
def bankR (l : Led) (a : Act) : Led × Int :=
  if !a.amB then (l, 2) else if a.kind = 7 then (if l.office < a.amount then (l, 7) else ({ l with office := l.office - a.amount, bank := l.bank + a.amount }, 0))
  else (if l.bank < a.amount then (l, 7) else ({ l with bank := l.bank - a.amount, out := l.out + a.amount }, 0))
end Go.Pu
namespace Go.Proofs.YtnjdlhhgnamigaaGreat
open Go.RowKit Go.Bs Go.Pu Go.Pl Go.Sort
set_option maxRecDepth 100000 in
set_option maxHeartbeats 4000000 in
theorem bank_any {base : Nat} {w : World} {P : Nat} {A : Option Addr} {n c : Nat} {B : Option Addr} {m d : Nat} {D : Option Addr} {q e : Nat} {l : Led} (h : RefM base w P A n c B m d D q e l) (hmon : l.mon) (a : Pu.Act) :
    Calls Tryz.prog 38 #[.pointer (some ⟨P, 0, none⟩), Act.val a] w fun r w' => r = .returned (.int .i64 (bankR l a).2) ∧ Below base w w' ∧ ((bankR l a).2 = 0 → RefM base w' P A n c B m d D q e (bankR l a).1) := by
  obtain ⟨a0, a1, a2, a3, a4, a5⟩ := a
  have C1 := Lib.hid (fun W => (show Calls Tryz.prog 60 #[.agg #[.int .u8 a0, .int .i64 a1, .int .i64 a2, .int .i64 a3, .int .i64 a4, .int .i64 a5]] W fun r w' => r = .returned (.bool (Act.amB ⟨a0, a1, a2, a3, a4, a5⟩)) ∧ Below W.heap.size W w' from amountR_any ⟨a0, a1, a2, a3, a4, a5⟩ W))
  have Ham := Lib.hid (show Act.amB ⟨a0, a1, a2, a3, a4, a5⟩ = true → 1 ≤ a4 ∧ a4 ≤ 1000000000000 from fun h => of_decide_eq_true h)
  have hres : bankR l ⟨a0, a1, a2, a3, a4, a5⟩ = if !(Act.amB ⟨a0, a1, a2, a3, a4, a5⟩) then (l, 2) else if a0 = 7 then (if l.office < a4 then (l, 7) else ({ l with office := l.office - a4, bank := l.bank + a4 }, 0)) else (if l.bank < a4 then (l, 7) else ({ l with bank := l.bank - a4, out := l.out + a4 }, 0)) := rfl
  generalize bankR l ⟨a0, a1, a2, a3, a4, a5⟩ = res at *
  generalize Act.amB ⟨a0, a1, a2, a3, a4, a5⟩ = am at *
  have Hres := Lib.hid hres
  clear hres
  unfold Act.val
  have hP0 := h.hP
  have hPl := h.blk.lt
  have hPb : base ≤ w.heap.size := Nat.le_trans hP0 (Nat.le_of_lt hPl)
  have hbw : Below base w (w.alloc (.cells #[.int .u8 a0, .int .i64 a1, .int .i64 a2, .int .i64 a3, .int .i64 a4, .int .i64 a5] 48)) := (Below.refl _ _).alloc hPb _
  have hU := Blk.new w 48 [.int .u8 a0, .int .i64 a1, .int .i64 a2, .int .i64 a3, .int .i64 a4, .int .i64 a5]
  have hR := h.ext (ext_alloc w (.cells #[.int .u8 a0, .int .i64 a1, .int .i64 a2, .int .i64 a3, .int .i64 a4, .int .i64 a5] 48))
  have ho := hmon.o
  have hk := hmon.k
  have hi := hmon.i
  have ht := hmon.t
  clear h
  obtain ⟨ws, bs, o, k, g, i, t, ds⟩ := l
  simp only at ho hk hi ht Hres
  clear hmon
  go_enter Tryz.func38, Tryz.ntmps38
  go_upto_region 1 with fail
  change Blk (w.alloc (.cells #[.int .u8 a0, .int .i64 a1, .int .i64 a2, .int .i64 a3, .int .i64 a4, .int .i64 a5] 48)) _ _ _ at hU
  generalize hU0 : w.heap.size = U at *
  generalize w.alloc (.cells #[.int .u8 a0, .int .i64 a1, .int .i64 a2, .int .i64 a3, .int .i64 a4, .int .i64 a5] 48) = W0 at *
  have u0 : W0.cell? ⟨U, 0, none⟩ = _ := hU.cell (i := 0) rfl
  have u1 : W0.cell? ⟨U, 1, none⟩ = _ := hU.cell (i := 1) rfl
  have u2 : W0.cell? ⟨U, 2, none⟩ = _ := hU.cell (i := 2) rfl
  have u3 : W0.cell? ⟨U, 3, none⟩ = _ := hU.cell (i := 3) rfl
  have u4 : W0.cell? ⟨U, 4, none⟩ = _ := hU.cell (i := 4) rfl
  have u5 : W0.cell? ⟨U, 5, none⟩ = _ := hU.cell (i := 5) rfl
  go_wp2_with fail
  refine (C1.out _).mono ?_; rintro r W1 ⟨rfl, hb1⟩
  replace hR := hR.ext hb1
  replace hU := hU.ext hb1
  replace hbw := hbw.trans (hb1.mono (by have := hbw.size; omega))
  clear hb1 u0 u1 u2 u3 u4 u5 C1
  cases am
  · have HY := Lib.hid (show res = _ from Hres.out)
    simp only [Bool.not_false, if_true] at HY
    go_wp2
    go_ret
    exact ⟨ret_congr (int_congr (by rw [HY.out])), hbw, fun hz => by rw [HY.out] at hz; cases hz⟩
  have ha := Ham.out rfl
  have u0 : W1.cell? ⟨U, 0, none⟩ = _ := hU.cell (i := 0) rfl
  go_upto_region 3 with fail
  by_cases h7 : a0 = 7
  · subst h7
    go_upto_region 4 with fail
    clear u0
    refine Dr.wp_region_plan 7 [] (.q [0, 1, 2, 3, 4, 5, 6] .done) (by kernel_rfl) (by kernel_rfl) ?_
    have hR' := hR.ext (ext_drew W1)
    have hU' := hU.ext (ext_drew W1)
    have hbw' := hbw.trans ((ext_drew W1).mono (by have := hbw.size; omega))
    clear hR hU hbw
    generalize World.drew W1 = W2 at *
    have hR := hR'
    have hU := hU'
    have hbw := hbw'
    clear hR' hU' hbw'
    have hB := hR.blk
    unfold rlC at hB
    simp only at hB
    have r0 := Dr.cell0 (hB.cell (i := 2) rfl)
    have r4 := Dr.cell0 (hU.cell (i := 4) rfl)
    by_cases hlt : o < a4
    · have HY := Lib.hid (show res = (⟨ws, bs, o, k, g, i, t, ds⟩, 7) by rw [Hres.out]; simp [hlt])
      refine Dr.plan_q (l := [_, _, _, _, _, _, _]) rfl (fun K hK => ?_)
      iterate 7 (go_big_quiet_step (fail))
      refine wpQuiet_nil (hK _ ?_); clear hK K
      refine Dr.plan_end rfl ?_
      clear r0 r4 hB
      go_wp2
      go_ret
      exact ⟨ret_congr (int_congr (by rw [HY.out])), hbw, fun hz => by rw [HY.out] at hz; cases hz⟩
    have HY := Lib.hid (show res = (⟨ws, bs, o - a4, k + a4, g, i, t, ds⟩, 0) by rw [Hres.out]; simp [hlt])
    refine Dr.plan_q (l := [_, _, _, _, _, _, _]) rfl (fun K hK => ?_)
    iterate 7 (go_big_quiet_step (fail))
    refine wpQuiet_nil (hK _ ?_); clear hK K
    refine Dr.plan_end rfl ?_
    clear r0 r4 hB
    go_upto_region 6 with fail
    refine Dr.wp_region_plan 9 [] (.q [0, 1, 2, 3, 4, 5, 6, 7, 8] .done) (by kernel_rfl) (by kernel_rfl) ?_
    have hR' := hR.ext (ext_drew W2)
    have hU' := hU.ext (ext_drew W2)
    have hbw' := hbw.trans ((ext_drew W2).mono (by have := hbw.size; omega))
    clear hR hU hbw
    generalize World.drew W2 = W3 at *
    have hR := hR'
    have hU := hU'
    have hbw := hbw'
    clear hR' hU' hbw'
    have hB := hR.blk
    unfold rlC at hB
    simp only at hB
    have r0 := Dr.cell0 (hB.cell (i := 2) rfl)
    have r4 := Dr.cell0 (hU.cell (i := 4) rfl)
    refine Dr.plan_q (l := [_, _, _, _, _, _, _, _, _]) rfl (fun K hK => ?_)
    iterate 9 (go_big_quiet_step (fail))
    refine wpQuiet_nil (hK _ ?_); clear hK K
    clear r0 r4
    refine Dr.plan_done (tl := [_]) rfl ?_
    have c0 : W3.cell? ⟨P, 2, none⟩ = _ := hB.cell (i := 2) rfl
    have f0 := hB.free 2
    have hR' := hR.put 2 (.int .i64 (o - a4)) ⟨ws, bs, o - a4, k, g, i, t, ds⟩ rfl rfl rfl rfl
    have hU' := hU.other (p := ⟨P, 2, none⟩) (by simp only; omega) (.int .i64 (o - a4))
    have hbw' := hbw.setCell (p := ⟨P, 2, none⟩) hP0 (.int .i64 (o - a4))
    clear hR hU hbw hB
    go_upto_region 7 with fail
    clear c0 f0
    generalize W3.setCell ⟨P, 2, none⟩ (.int .i64 (o - a4)) = W4 at *
    have hR := hR'
    have hU := hU'
    have hbw := hbw'
    clear hR' hU' hbw'
    refine Dr.wp_region_plan 9 [] (.q [0, 1, 2, 3, 4, 5, 6, 7, 8] .done) (by kernel_rfl) (by kernel_rfl) ?_
    have hR' := hR.ext (ext_drew W4)
    have hU' := hU.ext (ext_drew W4)
    have hbw' := hbw.trans ((ext_drew W4).mono (by have := hbw.size; omega))
    clear hR hU hbw
    generalize World.drew W4 = W5 at *
    have hR := hR'
    have hU := hU'
    have hbw := hbw'
    clear hR' hU' hbw'
    have hB := hR.blk
    unfold rlC at hB
    simp only at hB
    have r0 := Dr.cell0 (hB.cell (i := 3) rfl)
    have r4 := Dr.cell0 (hU.cell (i := 4) rfl)
    refine Dr.plan_q (l := [_, _, _, _, _, _, _, _, _]) rfl (fun K hK => ?_)
    iterate 9 (go_big_quiet_step (fail))
    refine wpQuiet_nil (hK _ ?_); clear hK K
    clear r0 r4
    refine Dr.plan_done (tl := [_]) rfl ?_
    have c0 : W5.cell? ⟨P, 3, none⟩ = _ := hB.cell (i := 3) rfl
    have f0 := hB.free 3
    have hR' := hR.put 3 (.int .i64 (k + a4)) ⟨ws, bs, o - a4, k + a4, g, i, t, ds⟩ rfl rfl rfl rfl
    have hU' := hU.other (p := ⟨P, 3, none⟩) (by simp only; omega) (.int .i64 (k + a4))
    have hbw' := hbw.setCell (p := ⟨P, 3, none⟩) hP0 (.int .i64 (k + a4))
    clear hR hU hbw hB
    go_wp2
    clear c0 f0
    go_ret
    exact ⟨ret_congr (int_congr (by rw [HY.out])), hbw', fun _ => by rw [HY.out]; exact hR'⟩
  · have e7 : (a0 == 7) = false := by simpa using h7
    go_upto_region 9 with fail
    clear u0
    refine Dr.wp_region_plan 7 [] (.q [0, 1, 2, 3, 4, 5, 6] .done) (by kernel_rfl) (by kernel_rfl) ?_
    have hR' := hR.ext (ext_drew W1)
    have hU' := hU.ext (ext_drew W1)
    have hbw' := hbw.trans ((ext_drew W1).mono (by have := hbw.size; omega))
    clear hR hU hbw
    generalize World.drew W1 = W2 at *
    have hR := hR'
    have hU := hU'
    have hbw := hbw'
    clear hR' hU' hbw'
    have hB := hR.blk
    unfold rlC at hB
    simp only at hB
    have r0 := Dr.cell0 (hB.cell (i := 3) rfl)
    have r4 := Dr.cell0 (hU.cell (i := 4) rfl)
    by_cases hlt : k < a4
    · have HY := Lib.hid (show res = (⟨ws, bs, o, k, g, i, t, ds⟩, 7) by rw [Hres.out]; simp [hlt, h7])
      clear h7
      refine Dr.plan_q (l := [_, _, _, _, _, _, _]) rfl (fun K hK => ?_)
      iterate 7 (go_big_quiet_step (fail))
      refine wpQuiet_nil (hK _ ?_); clear hK K
      refine Dr.plan_end rfl ?_
      clear r0 r4 hB
      go_wp2
      go_ret
      exact ⟨ret_congr (int_congr (by rw [HY.out])), hbw, fun hz => by rw [HY.out] at hz; cases hz⟩
    have HY := Lib.hid (show res = (⟨ws, bs, o, k - a4, g, i, t + a4, ds⟩, 0) by rw [Hres.out]; simp [hlt, h7])
    clear h7
    refine Dr.plan_q (l := [_, _, _, _, _, _, _]) rfl (fun K hK => ?_)
    iterate 7 (go_big_quiet_step (fail))
    refine wpQuiet_nil (hK _ ?_); clear hK K
    refine Dr.plan_end rfl ?_
    clear r0 r4 hB
    go_upto_region 11 with fail
    refine Dr.wp_region_plan 9 [] (.q [0, 1, 2, 3, 4, 5, 6, 7, 8] .done) (by kernel_rfl) (by kernel_rfl) ?_
    have hR' := hR.ext (ext_drew W2)
    have hU' := hU.ext (ext_drew W2)
    have hbw' := hbw.trans ((ext_drew W2).mono (by have := hbw.size; omega))
    clear hR hU hbw
    generalize World.drew W2 = W3 at *
    have hR := hR'
    have hU := hU'
    have hbw := hbw'
    clear hR' hU' hbw'
    have hB := hR.blk
    unfold rlC at hB
    simp only at hB
    have r0 := Dr.cell0 (hB.cell (i := 3) rfl)
    have r4 := Dr.cell0 (hU.cell (i := 4) rfl)
    refine Dr.plan_q (l := [_, _, _, _, _, _, _, _, _]) rfl (fun K hK => ?_)
    iterate 9 (go_big_quiet_step (fail))
    refine wpQuiet_nil (hK _ ?_); clear hK K
    clear r0 r4
    refine Dr.plan_done (tl := [_]) rfl ?_
    have c0 : W3.cell? ⟨P, 3, none⟩ = _ := hB.cell (i := 3) rfl
    have f0 := hB.free 3
    have hR' := hR.put 3 (.int .i64 (k - a4)) ⟨ws, bs, o, k - a4, g, i, t, ds⟩ rfl rfl rfl rfl
    have hU' := hU.other (p := ⟨P, 3, none⟩) (by simp only; omega) (.int .i64 (k - a4))
    have hbw' := hbw.setCell (p := ⟨P, 3, none⟩) hP0 (.int .i64 (k - a4))
    clear hR hU hbw hB
    go_upto_region 12 with fail
    clear c0 f0
    generalize W3.setCell ⟨P, 3, none⟩ (.int .i64 (k - a4)) = W4 at *
    have hR := hR'
    have hU := hU'
    have hbw := hbw'
    clear hR' hU' hbw'
    refine Dr.wp_region_plan 9 [] (.q [0, 1, 2, 3, 4, 5, 6, 7, 8] .done) (by kernel_rfl) (by kernel_rfl) ?_
    have hR' := hR.ext (ext_drew W4)
    have hU' := hU.ext (ext_drew W4)
    have hbw' := hbw.trans ((ext_drew W4).mono (by have := hbw.size; omega))
    clear hR hU hbw
    generalize World.drew W4 = W5 at *
    have hR := hR'
    have hU := hU'
    have hbw := hbw'
    clear hR' hU' hbw'
    have hB := hR.blk
    unfold rlC at hB
    simp only at hB
    have r0 := Dr.cell0 (hB.cell (i := 6) rfl)
    have r4 := Dr.cell0 (hU.cell (i := 4) rfl)
    refine Dr.plan_q (l := [_, _, _, _, _, _, _, _, _]) rfl (fun K hK => ?_)
    iterate 9 (go_big_quiet_step (fail))
    refine wpQuiet_nil (hK _ ?_); clear hK K
    clear r0 r4
    refine Dr.plan_done (tl := [_]) rfl ?_
    have c0 : W5.cell? ⟨P, 6, none⟩ = _ := hB.cell (i := 6) rfl
    have f0 := hB.free 6
    have hR' := hR.put 6 (.int .i64 (t + a4)) ⟨ws, bs, o, k - a4, g, i, t + a4, ds⟩ rfl rfl rfl rfl
    have hU' := hU.other (p := ⟨P, 6, none⟩) (by simp only; omega) (.int .i64 (t + a4))
    have hbw' := hbw.setCell (p := ⟨P, 6, none⟩) hP0 (.int .i64 (t + a4))
    clear hR hU hbw hB
    go_wp2
    clear c0 f0
    go_ret
    exact ⟨ret_congr (int_congr (by rw [HY.out])), hbw', fun _ => by rw [HY.out]; exact hR'⟩
end Go.Proofs.YtnjdlhhgnamigaaGreat

/- Walk: counter, of the reference. -/
namespace Go.Bs
open Go.RowKit Go.Pl
theorem OwnL.rowOf {α : Type} {w : World} {base : Nat} {e : TypeId} {sz : Nat} {enc : α → List Value} {v : Value} {l : List α} (h : OwnL w base e sz enc v l) (h0 : 0 < l.length) : ∃ g cap, v = .slice (some ⟨g, 0, none⟩) l.length cap := by
  rcases h.2 with ⟨-, e2⟩ | ⟨g, cap, cur, hv, -⟩
  · omega
  · exact ⟨g, cap, hv⟩
end Go.Bs
namespace Go.Pu
open Go.Pl
def counterR (l : Led) (a : Act) : Led × Int :=
  if !l.winB a.window || !a.amB then (l, 2)
  else if a.kind = 1 then (if l.office < a.amount then (l, 7) else ({ l.addW a.window a.amount with office := l.office - a.amount }, 0))
  else if a.kind = 2 then ({ l.addW a.window a.amount with inn := l.inn + a.amount }, 0)
  else if a.kind = 3 then (if l.win a.window < a.amount then (l, 7) else ({ l.addW a.window (-a.amount) with out := l.out + a.amount }, 0))
  else (l, 0)
end Go.Pu
namespace Go.Proofs.YtnjdlhhgnamigaaGreat
open Go.RowKit Go.Bs Go.Pu Go.Pl Go.Sort
set_option maxRecDepth 100000 in
set_option maxHeartbeats 4000000 in
theorem counter_any {base : Nat} {w : World} {P : Nat} {A : Option Addr} {n c : Nat} {B : Option Addr} {m d : Nat} {D : Option Addr} {q e : Nat} {l : Led} (h : RefM base w P A n c B m d D q e l) (hmon : l.mon) (a : Pu.Act) :
    Calls Tryz.prog 35 #[.pointer (some ⟨P, 0, none⟩), Act.val a] w fun r w' => r = .returned (.int .i64 (counterR l a).2) ∧ Below base w w' ∧ ((counterR l a).2 = 0 → RefM base w' P A n c B m d D q e (counterR l a).1) := by
  obtain ⟨a0, a1, a2, a3, a4, a5⟩ := a
  have C1 := Lib.hid (fun W => (show Calls Tryz.prog 60 #[.agg #[.int .u8 a0, .int .i64 a1, .int .i64 a2, .int .i64 a3, .int .i64 a4, .int .i64 a5]] W fun r w' => r = .returned (.bool (Act.amB ⟨a0, a1, a2, a3, a4, a5⟩)) ∧ Below W.heap.size W w' from amountR_any ⟨a0, a1, a2, a3, a4, a5⟩ W))
  have C2 := Lib.hid (fun W => (show Calls Tryz.prog 59 #[ledV A n c B m d l.office l.bank l.begun l.inn l.out D q e, .agg #[.int .u8 a0, .int .i64 a1, .int .i64 a2, .int .i64 a3, .int .i64 a4, .int .i64 a5]] W fun r w' => r = .returned (.bool (l.winB a1)) ∧ Below W.heap.size W w' from windowR_any l ⟨a0, a1, a2, a3, a4, a5⟩ A n c B m d D q e W h.hn h.n9))
  have Ham := Lib.hid (show Act.amB ⟨a0, a1, a2, a3, a4, a5⟩ = true → 1 ≤ a4 ∧ a4 ≤ 1000000000000 from fun h => of_decide_eq_true h)
  have Hwn := Lib.hid (show l.winB a1 = true → 0 ≤ a1 ∧ a1 ≤ (l.windows.length : Int) - 1 from fun h => of_decide_eq_true h)
  have hres : counterR l ⟨a0, a1, a2, a3, a4, a5⟩ = if !l.winB a1 || !(Act.amB ⟨a0, a1, a2, a3, a4, a5⟩) then (l, 2) else if a0 = 1 then (if l.office < a4 then (l, 7) else ({ l.addW a1 a4 with office := l.office - a4 }, 0)) else if a0 = 2 then ({ l.addW a1 a4 with inn := l.inn + a4 }, 0) else if a0 = 3 then (if l.win a1 < a4 then (l, 7) else ({ l.addW a1 (-a4) with out := l.out + a4 }, 0)) else (l, 0) := rfl
  generalize counterR l ⟨a0, a1, a2, a3, a4, a5⟩ = res at *
  generalize Act.amB ⟨a0, a1, a2, a3, a4, a5⟩ = am at *
  generalize hwb : l.winB a1 = wb at *
  clear hwb
  have Hres := Lib.hid hres
  clear hres
  unfold ledV at C2
  unfold Act.val
  have hAU := h.ow.block_ge rfl
  have hP0 := h.hP
  have hPl := h.blk.lt
  have hPb : base ≤ w.heap.size := Nat.le_trans hP0 (Nat.le_of_lt hPl)
  have hbw : Below base w (w.alloc (.cells #[.int .u8 a0, .int .i64 a1, .int .i64 a2, .int .i64 a3, .int .i64 a4, .int .i64 a5] 48)) := (Below.refl _ _).alloc hPb _
  have hU := Blk.new w 48 [.int .u8 a0, .int .i64 a1, .int .i64 a2, .int .i64 a3, .int .i64 a4, .int .i64 a5]
  have hR := h.ext (ext_alloc w (.cells #[.int .u8 a0, .int .i64 a1, .int .i64 a2, .int .i64 a3, .int .i64 a4, .int .i64 a5] 48))
  have ho := hmon.o
  have hk := hmon.k
  have hi := hmon.i
  have ht := hmon.t
  clear h
  have Hmw := Lib.hid hmon.w
  obtain ⟨ws, bs, o, k, g, i, t, ds⟩ := l
  simp only at ho hk hi ht Hres Hwn Hmw C2
  clear hmon
  go_enter Tryz.func35, Tryz.ntmps35
  go_upto_region 1 with fail
  change Blk (w.alloc (.cells #[.int .u8 a0, .int .i64 a1, .int .i64 a2, .int .i64 a3, .int .i64 a4, .int .i64 a5] 48)) _ _ _ at hU
  generalize hU0 : w.heap.size = U at *
  generalize w.alloc (.cells #[.int .u8 a0, .int .i64 a1, .int .i64 a2, .int .i64 a3, .int .i64 a4, .int .i64 a5] 48) = W0 at *
  refine Dr.wp_region_plan 11 [] (.q [0, 1, 2, 3] (.e1 4 (.q [5, 6, 7] (.e1 8 (.q [9, 10] .done))))) (by kernel_rfl) (by kernel_rfl) ?_
  replace hR := hR.ext (ext_drew W0)
  replace hU := hU.ext (ext_drew W0)
  replace hbw := hbw.trans ((ext_drew W0).mono (by have := hbw.size; omega))
  generalize World.drew W0 = V at *
  have hB := hR.blk
  unfold rlC at hB
  simp only at hB
  have r0 := Dr.cell0 (hB.cell (i := 0) rfl)
  have r1 := Dr.cell0 (hB.cell (i := 1) rfl)
  have r2 := Dr.cell0 (hB.cell (i := 2) rfl)
  have r3 := Dr.cell0 (hB.cell (i := 3) rfl)
  have r4 := Dr.cell0 (hB.cell (i := 4) rfl)
  have r5 := Dr.cell0 (hB.cell (i := 5) rfl)
  have r6 := Dr.cell0 (hB.cell (i := 6) rfl)
  have r7 := Dr.cell0 (hB.cell (i := 7) rfl)
  have v0 := Dr.cell0 (hU.cell (i := 0) rfl)
  have v1 := Dr.cell0 (hU.cell (i := 1) rfl)
  have v2 := Dr.cell0 (hU.cell (i := 2) rfl)
  have v3 := Dr.cell0 (hU.cell (i := 3) rfl)
  have v4 := Dr.cell0 (hU.cell (i := 4) rfl)
  have v5 := Dr.cell0 (hU.cell (i := 5) rfl)
  refine Dr.plan_q (l := [_, _, _, _]) rfl (fun K hK => ?_)
  iterate 4 (go_big_quiet_step (fail))
  refine wpQuiet_nil (hK _ ?_); clear hK K
  clear r0 r1 r2 r3 r4 r5 r6 r7 v0 v1 v2 v3 v4 v5 hB
  refine Dr.plan_e rfl (by rfl) (fun K hK => ?_)
  go_wp2_with fail
  refine (C2.out _).mono ?_; rintro r V1 ⟨rfl, hb1⟩
  go_wp2
  refine hK _ _ (.of hb1) ?_; clear hK K
  replace hR := hR.ext hb1
  replace hU := hU.ext hb1
  replace hbw := hbw.trans (hb1.mono (by have := hbw.size; omega))
  clear hb1 C2
  cases wb
  · have HY := Lib.hid (show res = _ from Hres.out)
    simp only [Bool.not_false, Bool.true_or, if_true] at HY
    refine Dr.plan_q (l := [_, _, _]) rfl (fun K hK => ?_)
    iterate 3 (go_big_quiet_step (fail))
    refine wpQuiet_nil (hK _ ?_); clear hK K
    with_reducible refine Dr.plan_e_skip (by with_unfolding_all exact rfl) (by with_unfolding_all rfl) ?_
    go_frame
    with_reducible refine Dr.plan_q (l := [_, _]) (by with_unfolding_all exact rfl) (fun K hK => ?_)
    iterate 2 (go_big_quiet_step (fail))
    refine wpQuiet_nil (hK _ ?_); clear hK K
    refine Dr.plan_end rfl ?_
    go_wp2
    go_ret
    exact ⟨ret_congr (int_congr (by rw [HY.out])), hbw, fun hz => by rw [HY.out] at hz; cases hz⟩
  have hB := hR.blk
  unfold rlC at hB
  simp only at hB
  have r0 := Dr.cell0 (hB.cell (i := 0) rfl)
  have r1 := Dr.cell0 (hB.cell (i := 1) rfl)
  have r2 := Dr.cell0 (hB.cell (i := 2) rfl)
  have r3 := Dr.cell0 (hB.cell (i := 3) rfl)
  have r4 := Dr.cell0 (hB.cell (i := 4) rfl)
  have r5 := Dr.cell0 (hB.cell (i := 5) rfl)
  have r6 := Dr.cell0 (hB.cell (i := 6) rfl)
  have r7 := Dr.cell0 (hB.cell (i := 7) rfl)
  have v0 := Dr.cell0 (hU.cell (i := 0) rfl)
  have v1 := Dr.cell0 (hU.cell (i := 1) rfl)
  have v2 := Dr.cell0 (hU.cell (i := 2) rfl)
  have v3 := Dr.cell0 (hU.cell (i := 3) rfl)
  have v4 := Dr.cell0 (hU.cell (i := 4) rfl)
  have v5 := Dr.cell0 (hU.cell (i := 5) rfl)
  refine Dr.plan_q (l := [_, _, _]) rfl (fun K hK => ?_)
  iterate 3 (go_big_quiet_step (fail))
  refine wpQuiet_nil (hK _ ?_); clear hK K
  clear r0 r1 r2 r3 r4 r5 r6 r7 v0 v1 v2 v3 v4 v5 hB
  refine Dr.plan_e rfl (by rfl) (fun K hK => ?_)
  go_wp2_with fail
  refine (C1.out _).mono ?_; rintro r V2 ⟨rfl, hb1⟩
  go_wp2
  refine hK _ _ (.of hb1) ?_; clear hK K
  replace hR := hR.ext hb1
  replace hU := hU.ext hb1
  replace hbw := hbw.trans (hb1.mono (by have := hbw.size; omega))
  clear hb1 C1
  cases am
  · have HY := Lib.hid (show res = _ from Hres.out)
    simp only [Bool.not_false, Bool.not_true, Bool.or_true, if_true] at HY
    refine Dr.plan_q (l := [_, _]) rfl (fun K hK => ?_)
    iterate 2 (go_big_quiet_step (fail))
    refine wpQuiet_nil (hK _ ?_); clear hK K
    refine Dr.plan_end rfl ?_
    go_wp2
    go_ret
    exact ⟨ret_congr (int_congr (by rw [HY.out])), hbw, fun hz => by rw [HY.out] at hz; cases hz⟩
  refine Dr.plan_q (l := [_, _]) rfl (fun K hK => ?_)
  iterate 2 (go_big_quiet_step (fail))
  refine wpQuiet_nil (hK _ ?_); clear hK K
  refine Dr.plan_end rfl ?_
  have ha := Ham.out (by first | rfl | trivial)
  have hw := Hwn.out (by first | rfl | trivial)
  have hr := Hres.out
  simp only [Bool.not_true, Bool.or_self, Bool.false_eq_true, if_false] at hr
  have Hr := Lib.hid hr
  clear hr Hres
  obtain ⟨wi, rfl⟩ : ∃ wi : Nat, a1 = wi := ⟨a1.toNat, by omega⟩
  have hwl : wi < ws.length := by omega
  have hwi : wi < n := by rw [← hR.hn]; exact hwl
  have hwi' : (wi : Int) < (n : Int) := by omega
  obtain ⟨gw, cw, hvw⟩ := hR.ow.rowOf (by show 0 < ws.length; omega)
  obtain rfl : A = some ⟨gw, 0, none⟩ := by rw [Value.slice.injEq] at hvw; exact hvw.1
  have hgU := (hAU gw rfl).2
  clear hvw hw Hwn Ham hAU
  have hgd : ws.getD wi 0 = ws[wi] := by simp [hwl]
  have hvb := Hmw.out _ (List.getElem_mem hwl)
  obtain ⟨vw, hvw⟩ : ∃ v, ws[wi] = v := ⟨_, rfl⟩
  have Hvw := Lib.hid hvw
  rw [hvw] at hvb
  have Hgd := Lib.hid (hgd.trans hvw)
  clear hvw hgd Hmw
  have u0 : V2.cell? ⟨U, 0, none⟩ = _ := hU.cell (i := 0) rfl
  go_upto_block 0 with fail
  by_cases h1 : a0 = 1
  · subst h1
    go_upto_region 5 with fail
    clear u0
    refine Dr.wp_region_plan 7 [] (.q [0, 1, 2, 3, 4, 5, 6] .done) (by kernel_rfl) (by kernel_rfl) ?_
    have hR' := hR.ext (ext_drew V2)
    have hU' := hU.ext (ext_drew V2)
    have hbw' := hbw.trans ((ext_drew V2).mono (by have := hbw.size; omega))
    clear hR hU hbw
    generalize World.drew V2 = W2 at *
    have hR := hR'
    have hU := hU'
    have hbw := hbw'
    clear hR' hU' hbw'
    have hB := hR.blk
    unfold rlC at hB
    simp only at hB
    have r0 := Dr.cell0 (hB.cell (i := 2) rfl)
    have r4 := Dr.cell0 (hU.cell (i := 4) rfl)
    by_cases hlt : o < a4
    · have HY := Lib.hid (show res = (⟨ws, bs, o, k, g, i, t, ds⟩, 7) by rw [Hr.out]; simp [hlt])
      refine Dr.plan_q (l := [_, _, _, _, _, _, _]) rfl (fun K hK => ?_)
      iterate 7 (go_big_quiet_step (fail))
      refine wpQuiet_nil (hK _ ?_); clear hK K
      refine Dr.plan_end rfl ?_
      clear r0 r4 hB
      go_wp2
      go_ret
      exact ⟨ret_congr (int_congr (by rw [HY.out])), hbw, fun hz => by rw [HY.out] at hz; cases hz⟩
    have HY := Lib.hid (show res = (⟨ws.set wi (vw + a4), bs, o - a4, k, g, i, t, ds⟩, 0) by rw [Hr.out]; simp [hlt, Led.addW, ← Hgd.out])
    clear Hr
    refine Dr.plan_q (l := [_, _, _, _, _, _, _]) rfl (fun K hK => ?_)
    iterate 7 (go_big_quiet_step (fail))
    refine wpQuiet_nil (hK _ ?_); clear hK K
    refine Dr.plan_end rfl ?_
    clear r0 r4 hB
    go_upto_region 7 with fail
    refine Dr.wp_region_plan 9 [] (.q [0, 1, 2, 3, 4, 5, 6, 7, 8] .done) (by kernel_rfl) (by kernel_rfl) ?_
    have hR' := hR.ext (ext_drew W2)
    have hU' := hU.ext (ext_drew W2)
    have hbw' := hbw.trans ((ext_drew W2).mono (by have := hbw.size; omega))
    clear hR hU hbw
    generalize World.drew W2 = W3 at *
    have hR := hR'
    have hU := hU'
    have hbw := hbw'
    clear hR' hU' hbw'
    have hB := hR.blk
    unfold rlC at hB
    simp only at hB
    have r0 := Dr.cell0 (hB.cell (i := 2) rfl)
    have r4 := Dr.cell0 (hU.cell (i := 4) rfl)
    refine Dr.plan_q (l := [_, _, _, _, _, _, _, _, _]) rfl (fun K hK => ?_)
    iterate 9 (go_big_quiet_step (fail))
    refine wpQuiet_nil (hK _ ?_); clear hK K
    clear r0 r4
    refine Dr.plan_done (tl := [_]) rfl ?_
    have c0 : W3.cell? ⟨P, 2, none⟩ = _ := hB.cell (i := 2) rfl
    have f0 := hB.free 2
    have hR' := hR.put 2 (.int .i64 (o - a4)) ⟨ws, bs, o - a4, k, g, i, t, ds⟩ rfl rfl rfl rfl
    have hU' := hU.other (p := ⟨P, 2, none⟩) (by simp only; omega) (.int .i64 (o - a4))
    have hbw' := hbw.setCell (p := ⟨P, 2, none⟩) hP0 (.int .i64 (o - a4))
    clear hR hU hbw hB
    go_upto_region 8 with fail
    clear c0 f0
    generalize W3.setCell ⟨P, 2, none⟩ (.int .i64 (o - a4)) = W4 at *
    have hR := hR'
    have hU := hU'
    have hbw := hbw'
    clear hR' hU' hbw'
    refine Dr.wp_region_plan 12 [] (.q [0, 1, 2, 3, 4, 5, 6, 7, 8, 9, 10, 11] .done) (by kernel_rfl) (by kernel_rfl) ?_
    have hR' := hR.ext (ext_drew W4)
    have hU' := hU.ext (ext_drew W4)
    have hbw' := hbw.trans ((ext_drew W4).mono (by have := hbw.size; omega))
    clear hR hU hbw
    generalize World.drew W4 = W5 at *
    have hR := hR'
    have hU := hU'
    have hbw := hbw'
    clear hR' hU' hbw'
    obtain ⟨A7, q7, hv7, -, -, hC7⟩ := hR.ow.cells encI_len
    obtain ⟨rfl, rfl⟩ : A7 = some ⟨gw, 0, none⟩ ∧ c = q7 := by have h := hv7; rw [Value.slice.injEq] at h; exact ⟨h.1.symm, h.2.2⟩
    clear hv7
    obtain ⟨b7, o7, e7, -, t0⟩ := hC7.at1 (k := wi) hwl rfl
    obtain ⟨rfl, rfl⟩ : gw = b7 ∧ 0 = o7 := by simpa [eq_comm] using e7
    rw [Nat.zero_add, Hvw.out] at t0
    clear e7 hC7
    have hB := hR.blk
    unfold rlC at hB
    simp only at hB
    have r0 := Dr.cell0 (hB.cell (i := 0) rfl)
    have r1 := Dr.cell0 (hU.cell (i := 1) rfl)
    have r4 := Dr.cell0 (hU.cell (i := 4) rfl)
    have r5 := Dr.cell0 t0
    refine Dr.plan_q (l := [_, _, _, _, _, _, _, _, _, _, _, _]) rfl (fun K hK => ?_)
    iterate 12 (go_big_quiet_step (fail))
    refine wpQuiet_nil (hK _ ?_); clear hK K
    clear r0 r1 r4 r5
    refine Dr.plan_done (tl := [_]) rfl ?_
    have f0 := hR.ow.frozen wi
    have hR' := hR.putW hwi (vw + a4)
    simp only at hR'
    have hgl := hR.ow.block_ge rfl gw rfl
    have hU' := hU.other (p := ⟨gw, wi, none⟩) (by simp only; omega) (.int .i64 (vw + a4))
    have hbw' := hbw.setCell (p := ⟨gw, wi, none⟩) hgl.1 (.int .i64 (vw + a4))
    clear hR hU hbw hB hgl
    go_upto_region 17 with fail
    clear t0 f0
    generalize W5.setCell ⟨gw, wi, none⟩ (.int .i64 (vw + a4)) = W6 at *
    have hR := hR'
    have hU := hU'
    have hbw := hbw'
    clear hR' hU' hbw'
    go_wp2
    go_ret
    exact ⟨ret_congr (int_congr (by rw [HY.out])), hbw, fun _ => by rw [HY.out]; exact hR⟩
  have e1 : (a0 == 1) = false := by simpa using h1
  by_cases h2 : a0 = 2
  · subst h2
    have HY := Lib.hid (show res = (⟨ws.set wi (vw + a4), bs, o, k, g, i + a4, t, ds⟩, 0) by rw [Hr.out]; simp [Led.addW, ← Hgd.out])
    clear Hr h1 e1
    go_upto_region 10 with fail
    clear u0
    refine Dr.wp_region_plan 12 [] (.q [0, 1, 2, 3, 4, 5, 6, 7, 8, 9, 10, 11] .done) (by kernel_rfl) (by kernel_rfl) ?_
    have hR' := hR.ext (ext_drew V2)
    have hU' := hU.ext (ext_drew V2)
    have hbw' := hbw.trans ((ext_drew V2).mono (by have := hbw.size; omega))
    clear hR hU hbw
    generalize World.drew V2 = W5 at *
    have hR := hR'
    have hU := hU'
    have hbw := hbw'
    clear hR' hU' hbw'
    obtain ⟨A7, q7, hv7, -, -, hC7⟩ := hR.ow.cells encI_len
    obtain ⟨rfl, rfl⟩ : A7 = some ⟨gw, 0, none⟩ ∧ c = q7 := by have h := hv7; rw [Value.slice.injEq] at h; exact ⟨h.1.symm, h.2.2⟩
    clear hv7
    obtain ⟨b7, o7, e7, -, t0⟩ := hC7.at1 (k := wi) hwl rfl
    obtain ⟨rfl, rfl⟩ : gw = b7 ∧ 0 = o7 := by simpa [eq_comm] using e7
    rw [Nat.zero_add, Hvw.out] at t0
    clear e7 hC7
    have hB := hR.blk
    unfold rlC at hB
    simp only at hB
    have r0 := Dr.cell0 (hB.cell (i := 0) rfl)
    have r1 := Dr.cell0 (hU.cell (i := 1) rfl)
    have r4 := Dr.cell0 (hU.cell (i := 4) rfl)
    have r5 := Dr.cell0 t0
    refine Dr.plan_q (l := [_, _, _, _, _, _, _, _, _, _, _, _]) rfl (fun K hK => ?_)
    iterate 12 (go_big_quiet_step (fail))
    refine wpQuiet_nil (hK _ ?_); clear hK K
    clear r0 r1 r4 r5
    refine Dr.plan_done (tl := [_]) rfl ?_
    have f0 := hR.ow.frozen wi
    have hR' := hR.putW hwi (vw + a4)
    simp only at hR'
    have hgl := hR.ow.block_ge rfl gw rfl
    have hU' := hU.other (p := ⟨gw, wi, none⟩) (by simp only; omega) (.int .i64 (vw + a4))
    have hbw' := hbw.setCell (p := ⟨gw, wi, none⟩) hgl.1 (.int .i64 (vw + a4))
    clear hR hU hbw hB hgl
    go_upto_region 11 with fail
    clear t0 f0
    generalize W5.setCell ⟨gw, wi, none⟩ (.int .i64 (vw + a4)) = W6 at *
    have hR := hR'
    have hU := hU'
    have hbw := hbw'
    clear hR' hU' hbw'
    refine Dr.wp_region_plan 9 [] (.q [0, 1, 2, 3, 4, 5, 6, 7, 8] .done) (by kernel_rfl) (by kernel_rfl) ?_
    have hR' := hR.ext (ext_drew W6)
    have hU' := hU.ext (ext_drew W6)
    have hbw' := hbw.trans ((ext_drew W6).mono (by have := hbw.size; omega))
    clear hR hU hbw
    generalize World.drew W6 = W7 at *
    have hR := hR'
    have hU := hU'
    have hbw := hbw'
    clear hR' hU' hbw'
    have hB := hR.blk
    unfold rlC at hB
    simp only at hB
    have r0 := Dr.cell0 (hB.cell (i := 5) rfl)
    have r4 := Dr.cell0 (hU.cell (i := 4) rfl)
    refine Dr.plan_q (l := [_, _, _, _, _, _, _, _, _]) rfl (fun K hK => ?_)
    iterate 9 (go_big_quiet_step (fail))
    refine wpQuiet_nil (hK _ ?_); clear hK K
    clear r0 r4
    refine Dr.plan_done (tl := [_]) rfl ?_
    have c0 : W7.cell? ⟨P, 5, none⟩ = _ := hB.cell (i := 5) rfl
    have f0 := hB.free 5
    have hR' := hR.put 5 (.int .i64 (i + a4)) ⟨ws.set wi (vw + a4), bs, o, k, g, i + a4, t, ds⟩ rfl rfl rfl rfl
    have hU' := hU.other (p := ⟨P, 5, none⟩) (by simp only; omega) (.int .i64 (i + a4))
    have hbw' := hbw.setCell (p := ⟨P, 5, none⟩) hP0 (.int .i64 (i + a4))
    clear hR hU hbw hB
    go_upto_region 17 with fail
    clear c0 f0
    generalize W7.setCell ⟨P, 5, none⟩ (.int .i64 (i + a4)) = W8 at *
    have hR := hR'
    have hU := hU'
    have hbw := hbw'
    clear hR' hU' hbw'
    go_wp2
    go_ret
    exact ⟨ret_congr (int_congr (by rw [HY.out])), hbw, fun _ => by rw [HY.out]; exact hR⟩
  have e2 : (a0 == 2) = false := by simpa using h2
  by_cases h3 : a0 = 3
  · subst h3
    clear h1 h2 e1 e2
    go_upto_region 13 with fail
    clear u0
    have hwin : Led.win ⟨ws, bs, o, k, g, i, t, ds⟩ (wi : Int) = vw := by show ws.getD (wi : Int).toNat 0 = vw; rw [Int.toNat_natCast]; exact Hgd.out
    have Hwin := Lib.hid hwin
    clear hwin
    refine Dr.wp_region_plan 11 [] (.q [0, 1, 2, 3, 4, 5, 6, 7, 8, 9, 10] .done) (by kernel_rfl) (by kernel_rfl) ?_
    have hR' := hR.ext (ext_drew V2)
    have hU' := hU.ext (ext_drew V2)
    have hbw' := hbw.trans ((ext_drew V2).mono (by have := hbw.size; omega))
    clear hR hU hbw
    generalize World.drew V2 = W2 at *
    have hR := hR'
    have hU := hU'
    have hbw := hbw'
    clear hR' hU' hbw'
    obtain ⟨A7, q7, hv7, -, -, hC7⟩ := hR.ow.cells encI_len
    obtain ⟨rfl, rfl⟩ : A7 = some ⟨gw, 0, none⟩ ∧ c = q7 := by have h := hv7; rw [Value.slice.injEq] at h; exact ⟨h.1.symm, h.2.2⟩
    clear hv7
    obtain ⟨b7, o7, e7, -, t0⟩ := hC7.at1 (k := wi) hwl rfl
    obtain ⟨rfl, rfl⟩ : gw = b7 ∧ 0 = o7 := by simpa [eq_comm] using e7
    rw [Nat.zero_add, Hvw.out] at t0
    clear e7 hC7
    have hB := hR.blk
    unfold rlC at hB
    simp only at hB
    have r0 := Dr.cell0 (hB.cell (i := 0) rfl)
    have r1 := Dr.cell0 (hU.cell (i := 1) rfl)
    have r4 := Dr.cell0 (hU.cell (i := 4) rfl)
    have r5 := Dr.cell0 t0
    by_cases hlt : vw < a4
    · have HY := Lib.hid (show res = (⟨ws, bs, o, k, g, i, t, ds⟩, 7) by rw [Hr.out, Hwin.out, if_neg (by decide), if_neg (by decide), if_pos rfl, if_pos hlt])
      refine Dr.plan_q (l := [_, _, _, _, _, _, _, _, _, _, _]) rfl (fun K hK => ?_)
      iterate 11 (go_big_quiet_step (fail))
      refine wpQuiet_nil (hK _ ?_); clear hK K
      refine Dr.plan_end rfl ?_
      go_wp2
      go_ret
      exact ⟨ret_congr (int_congr (by rw [HY.out])), hbw, fun hz => by rw [HY.out] at hz; cases hz⟩
    have HY := Lib.hid (show res = (⟨ws.set wi (vw - a4), bs, o, k, g, i, t + a4, ds⟩, 0) by rw [Hr.out, Hwin.out, if_neg (by decide), if_neg (by decide), if_pos rfl, if_neg hlt]; simp [Led.addW, ← Hgd.out, Int.sub_eq_add_neg])
    clear Hr
    refine Dr.plan_q (l := [_, _, _, _, _, _, _, _, _, _, _]) rfl (fun K hK => ?_)
    iterate 11 (go_big_quiet_step (fail))
    refine wpQuiet_nil (hK _ ?_); clear hK K
    refine Dr.plan_end rfl ?_
    clear r0 r1 r4 r5 hB t0
    go_upto_region 15 with fail
    refine Dr.wp_region_plan 12 [] (.q [0, 1, 2, 3, 4, 5, 6, 7, 8, 9, 10, 11] .done) (by kernel_rfl) (by kernel_rfl) ?_
    have hR' := hR.ext (ext_drew W2)
    have hU' := hU.ext (ext_drew W2)
    have hbw' := hbw.trans ((ext_drew W2).mono (by have := hbw.size; omega))
    clear hR hU hbw
    generalize World.drew W2 = W5 at *
    have hR := hR'
    have hU := hU'
    have hbw := hbw'
    clear hR' hU' hbw'
    obtain ⟨A7, q7, hv7, -, -, hC7⟩ := hR.ow.cells encI_len
    obtain ⟨rfl, rfl⟩ : A7 = some ⟨gw, 0, none⟩ ∧ c = q7 := by have h := hv7; rw [Value.slice.injEq] at h; exact ⟨h.1.symm, h.2.2⟩
    clear hv7
    obtain ⟨b7, o7, e7, -, t0⟩ := hC7.at1 (k := wi) hwl rfl
    obtain ⟨rfl, rfl⟩ : gw = b7 ∧ 0 = o7 := by simpa [eq_comm] using e7
    rw [Nat.zero_add, Hvw.out] at t0
    clear e7 hC7
    have hB := hR.blk
    unfold rlC at hB
    simp only at hB
    have r0 := Dr.cell0 (hB.cell (i := 0) rfl)
    have r1 := Dr.cell0 (hU.cell (i := 1) rfl)
    have r4 := Dr.cell0 (hU.cell (i := 4) rfl)
    have r5 := Dr.cell0 t0
    refine Dr.plan_q (l := [_, _, _, _, _, _, _, _, _, _, _, _]) rfl (fun K hK => ?_)
    iterate 12 (go_big_quiet_step (fail))
    refine wpQuiet_nil (hK _ ?_); clear hK K
    clear r0 r1 r4 r5
    refine Dr.plan_done (tl := [_]) rfl ?_
    have f0 := hR.ow.frozen wi
    have hR' := hR.putW hwi (vw - a4)
    simp only at hR'
    have hgl := hR.ow.block_ge rfl gw rfl
    have hU' := hU.other (p := ⟨gw, wi, none⟩) (by simp only; omega) (.int .i64 (vw - a4))
    have hbw' := hbw.setCell (p := ⟨gw, wi, none⟩) hgl.1 (.int .i64 (vw - a4))
    clear hR hU hbw hB hgl
    go_upto_region 16 with fail
    clear t0 f0
    generalize W5.setCell ⟨gw, wi, none⟩ (.int .i64 (vw - a4)) = W6 at *
    have hR := hR'
    have hU := hU'
    have hbw := hbw'
    clear hR' hU' hbw'
    refine Dr.wp_region_plan 9 [] (.q [0, 1, 2, 3, 4, 5, 6, 7, 8] .done) (by kernel_rfl) (by kernel_rfl) ?_
    have hR' := hR.ext (ext_drew W6)
    have hU' := hU.ext (ext_drew W6)
    have hbw' := hbw.trans ((ext_drew W6).mono (by have := hbw.size; omega))
    clear hR hU hbw
    generalize World.drew W6 = W7 at *
    have hR := hR'
    have hU := hU'
    have hbw := hbw'
    clear hR' hU' hbw'
    have hB := hR.blk
    unfold rlC at hB
    simp only at hB
    have r0 := Dr.cell0 (hB.cell (i := 6) rfl)
    have r4 := Dr.cell0 (hU.cell (i := 4) rfl)
    refine Dr.plan_q (l := [_, _, _, _, _, _, _, _, _]) rfl (fun K hK => ?_)
    iterate 9 (go_big_quiet_step (fail))
    refine wpQuiet_nil (hK _ ?_); clear hK K
    clear r0 r4
    refine Dr.plan_done (tl := [_]) rfl ?_
    have c0 : W7.cell? ⟨P, 6, none⟩ = _ := hB.cell (i := 6) rfl
    have f0 := hB.free 6
    have hR' := hR.put 6 (.int .i64 (t + a4)) ⟨ws.set wi (vw - a4), bs, o, k, g, i, t + a4, ds⟩ rfl rfl rfl rfl
    have hU' := hU.other (p := ⟨P, 6, none⟩) (by simp only; omega) (.int .i64 (t + a4))
    have hbw' := hbw.setCell (p := ⟨P, 6, none⟩) hP0 (.int .i64 (t + a4))
    clear hR hU hbw hB
    go_upto_region 17 with fail
    clear c0 f0
    generalize W7.setCell ⟨P, 6, none⟩ (.int .i64 (t + a4)) = W8 at *
    have hR := hR'
    have hU := hU'
    have hbw := hbw'
    clear hR' hU' hbw'
    go_wp2
    go_ret
    exact ⟨ret_congr (int_congr (by rw [HY.out])), hbw, fun _ => by rw [HY.out]; exact hR⟩
  have e3 : (a0 == 3) = false := by simpa using h3
  have HY := Lib.hid (show res = (⟨ws, bs, o, k, g, i, t, ds⟩, 0) by rw [Hr.out]; simp [h1, h2, h3])
  clear h1 h2 h3
  go_wp2
  go_ret
  exact ⟨ret_congr (int_congr (by rw [HY.out])), hbw, fun _ => by rw [HY.out]; exact hR⟩
end Go.Proofs.YtnjdlhhgnamigaaGreat

/- Walk: pack, of the reference. -/
namespace Go.Pu
open Go.Pl
def packR (l : Led) (a : Act) : Led × Int :=
  if !l.winB a.window || (!sealB a.sl || (!a.amB || !monB a.written)) then (l, 2) else if 100 ≤ l.bags.length then (l, 3) else if l.sealed a.sl (-1) then (l, 6)
  else if l.win a.window < a.amount then (l, 7)
  else ({ l.addW a.window (-a.amount) with bags := l.bags ++ [⟨a.window, a.sl, a.written, a.amount, a.sl, false⟩] }, 0)
end Go.Pu
namespace Go.Proofs.YtnjdlhhgnamigaaGreat
open Go.RowKit Go.Bs Go.Pu Go.Pl Go.Sort
theorem et23 : ElemT Tryz.prog 23 83 6 48 := ElemT.mk (z := .agg #[.int .i64 0, .int .i64 0, .int .i64 0, .int .i64 0, .int .i64 0, .bool false]) Tryz.underlying23 (by kernel_rfl) rfl
theorem et24 : ElemT Tryz.prog 24 84 3 24 := ElemT.mk (z := .agg #[.int .i64 0, .int .i64 0, .bool false]) Tryz.underlying24 (by kernel_rfl) rfl
section
variable {base : Nat} {W X : World} {P : Nat} {A : Option Addr} {n c : Nat} {B : Option Addr} {m d : Nat} {D : Option Addr} {q e : Nat} {l : Led}
theorem RefM.appB (h : RefM base W P A n c B m d D q e l) {g c2 : Nat} (x : Bag) (ho : OwnL X base 83 6 Bag.enc (.slice (some ⟨g, 0, none⟩) (m + 1) c2) (l.bags ++ [x])) (hg : W.grownBy X (Value.slice B m d).ownBlock) (hat : (Value.slice B m d).ownBlock = some g ∨ g = W.heap.size) (h9 : m + 1 ≤ 1000) :
    RefM base (X.setCell ⟨P, 1, none⟩ (.slice (some ⟨g, 0, none⟩) (m + 1) c2)) P A n c (some ⟨g, 0, none⟩) (m + 1) c2 D q e { l with bags := l.bags ++ [x] } := by
  have hPl := h.blk.lt
  have gP : g ≠ P := fun e => by rcases hat with h1 | h1
                                 · exact h.pb (by rw [h1, e])
                                 · omega
  refine ⟨(kept_blk h.blk hg h.pb).set 1 _, h.hn, by simp [h.hm], h.hq, h.n9, h9, h.q9, (own_kept h.ow hg (fun k hk => h.wb k hk)).put h.pw _, ho.put (fun e => gP (by cases e; rfl)) _, (own_kept h.od hg (fun k hk e => h.bd k e hk)).put h.pd _, h.pw, fun e => gP (by cases e; rfl), h.pd, ?_, h.wd, ?_, h.hP⟩
  · rintro k hk e
    cases e
    rcases hat with h1 | h1
    · exact h.wb g hk h1
    · have h2 := (h.ow.lt (k := g) hk).2; omega
  · rintro k hk e
    cases hk
    rcases hat with h1 | h1
    · exact h.bd g h1 e
    · have h2 := (h.od.lt (k := g) e).2; omega
/-- a difference is added -/
theorem RefM.appD (h : RefM base W P A n c B m d D q e l) {g c2 : Nat} (x : Dif) (ho : OwnL X base 84 3 Dif.enc (.slice (some ⟨g, 0, none⟩) (q + 1) c2) (l.diffs ++ [x])) (hg : W.grownBy X (Value.slice D q e).ownBlock) (hat : (Value.slice D q e).ownBlock = some g ∨ g = W.heap.size) (h9 : q + 1 ≤ 1000) :
    RefM base (X.setCell ⟨P, 7, none⟩ (.slice (some ⟨g, 0, none⟩) (q + 1) c2)) P A n c B m d (some ⟨g, 0, none⟩) (q + 1) c2 { l with diffs := l.diffs ++ [x] } := by
  have hPl := h.blk.lt
  have gP : g ≠ P := fun e => by rcases hat with h1 | h1
                                 · exact h.pd (by rw [h1, e])
                                 · omega
  refine ⟨(kept_blk h.blk hg h.pd).set 7 _, h.hn, h.hm, by simp [h.hq], h.n9, h.m9, h9, (own_kept h.ow hg (fun k hk => h.wd k hk)).put h.pw _, (own_kept h.ob hg (fun k hk => h.bd k hk)).put h.pb _, ho.put (fun e => gP (by cases e; rfl)) _, h.pw, h.pb, fun e => gP (by cases e; rfl), h.wb, ?_, ?_, h.hP⟩
  · rintro k hk e
    cases e
    rcases hat with h1 | h1
    · exact h.wd g hk h1
    · have h2 := (h.ow.lt (k := g) hk).2; omega
  · rintro k hk e
    cases e
    rcases hat with h1 | h1
    · exact h.bd g hk h1
    · have h2 := (h.ob.lt (k := g) hk).2; omega

end
set_option maxRecDepth 100000 in
set_option maxHeartbeats 4000000 in
theorem pack_any {base : Nat} {w : World} {P : Nat} {A : Option Addr} {n c : Nat} {B : Option Addr} {m d : Nat} {D : Option Addr} {q e : Nat} {l : Led} (h : RefM base w P A n c B m d D q e l) (hmon : l.mon) (a : Pu.Act) :
    Calls Tryz.prog 36 #[.pointer (some ⟨P, 0, none⟩), Act.val a] w fun r w' => r = .returned (.int .i64 (packR l a).2) ∧ Below base w w' ∧ ((packR l a).2 = 0 → ∃ B' m' d', RefM base w' P A n c B' m' d' D q e (packR l a).1) := by
  obtain ⟨a0, a1, a2, a3, a4, a5⟩ := a
  have C1 := Lib.hid (fun W => (show Calls Tryz.prog 60 #[.agg #[.int .u8 a0, .int .i64 a1, .int .i64 a2, .int .i64 a3, .int .i64 a4, .int .i64 a5]] W fun r w' => r = .returned (.bool (Act.amB ⟨a0, a1, a2, a3, a4, a5⟩)) ∧ Below W.heap.size W w' from amountR_any ⟨a0, a1, a2, a3, a4, a5⟩ W))
  have C2 := Lib.hid (fun W => (show Calls Tryz.prog 59 #[ledV A n c B m d l.office l.bank l.begun l.inn l.out D q e, .agg #[.int .u8 a0, .int .i64 a1, .int .i64 a2, .int .i64 a3, .int .i64 a4, .int .i64 a5]] W fun r w' => r = .returned (.bool (l.winB a1)) ∧ Below W.heap.size W w' from windowR_any l ⟨a0, a1, a2, a3, a4, a5⟩ A n c B m d D q e W h.hn h.n9))
  have C3 := Lib.hid (fun W => (show Calls Tryz.prog 61 #[.agg #[.int .u8 a0, .int .i64 a1, .int .i64 a2, .int .i64 a3, .int .i64 a4, .int .i64 a5]] W fun r w' => r = .returned (.bool (sealB a3)) ∧ Below W.heap.size W w' from sealR_any ⟨a0, a1, a2, a3, a4, a5⟩ W))
  have C4 := Lib.hid (fun W => moneyR_any a5 W)
  have C5 := Lib.hid (fun W hM => sealedR_any l A n c B m d D q e a3 (-1) W hM)
  have Ham := Lib.hid (show Act.amB ⟨a0, a1, a2, a3, a4, a5⟩ = true → 1 ≤ a4 ∧ a4 ≤ 1000000000000 from fun h => of_decide_eq_true h)
  have Hwn := Lib.hid (show l.winB a1 = true → 0 ≤ a1 ∧ a1 ≤ (l.windows.length : Int) - 1 from fun h => of_decide_eq_true h)
  have hres : packR l ⟨a0, a1, a2, a3, a4, a5⟩ = if !l.winB a1 || (!sealB a3 || (!(Act.amB ⟨a0, a1, a2, a3, a4, a5⟩) || !monB a5)) then (l, 2) else if 100 ≤ l.bags.length then (l, 3) else if l.sealed a3 (-1) then (l, 6) else if l.win a1 < a4 then (l, 7) else ({ l.addW a1 (-a4) with bags := l.bags ++ [⟨a1, a3, a5, a4, a3, false⟩] }, 0) := rfl
  rw [h.hm] at hres
  generalize packR l ⟨a0, a1, a2, a3, a4, a5⟩ = res at *
  generalize Act.amB ⟨a0, a1, a2, a3, a4, a5⟩ = am at *
  generalize sealB a3 = sb at *
  generalize monB a5 = mb at *
  generalize hsd : l.sealed a3 (-1) = sd at *
  generalize hwb : l.winB a1 = wb at *
  clear hwb hsd
  have Hres := Lib.hid hres
  clear hres
  unfold ledV at C2 C5
  unfold Act.val
  have hAU := h.ow.block_ge rfl
  have hBU : ∀ kk, (Value.slice B m d).ownBlock = some kk → kk < w.heap.size := fun kk hv => (h.ob.lt hv).2
  have hP0 := h.hP
  have hPl := h.blk.lt
  have hPb : base ≤ w.heap.size := Nat.le_trans hP0 (Nat.le_of_lt hPl)
  have hbw : Below base w (w.alloc (.cells #[.int .u8 a0, .int .i64 a1, .int .i64 a2, .int .i64 a3, .int .i64 a4, .int .i64 a5] 48)) := (Below.refl _ _).alloc hPb _
  have hU := Blk.new w 48 [.int .u8 a0, .int .i64 a1, .int .i64 a2, .int .i64 a3, .int .i64 a4, .int .i64 a5]
  have hR := h.ext (ext_alloc w (.cells #[.int .u8 a0, .int .i64 a1, .int .i64 a2, .int .i64 a3, .int .i64 a4, .int .i64 a5] 48))
  have ho := hmon.o
  have hk := hmon.k
  have hi := hmon.i
  have ht := hmon.t
  clear h
  have Hmw := Lib.hid hmon.w
  obtain ⟨ws, bs, o, k, g, i, t, ds⟩ := l
  simp only at ho hk hi ht Hres Hwn Hmw C2 C5
  clear hmon
  go_enter Tryz.func36, Tryz.ntmps36
  go_upto_region 1 with fail
  change Blk (w.alloc (.cells #[.int .u8 a0, .int .i64 a1, .int .i64 a2, .int .i64 a3, .int .i64 a4, .int .i64 a5] 48)) _ _ _ at hU
  generalize hU0 : w.heap.size = U at *
  generalize w.alloc (.cells #[.int .u8 a0, .int .i64 a1, .int .i64 a2, .int .i64 a3, .int .i64 a4, .int .i64 a5] 48) = W0 at *
  refine Dr.wp_region_plan 22 [] (.q [0, 1, 2, 3] (.e1 4 (.q [5, 6, 7] (.e1 8 (.q [9, 10, 11, 12] (.e1 13 (.q [14, 15, 16, 17, 18] (.e1 19 (.q [20, 21] .done))))))))) (by kernel_rfl) (by kernel_rfl) ?_
  replace hR := hR.ext (ext_drew W0)
  replace hU := hU.ext (ext_drew W0)
  replace hbw := hbw.trans ((ext_drew W0).mono (by have := hbw.size; omega))
  generalize World.drew W0 = V at *
  have hB := hR.blk
  unfold rlC at hB
  simp only at hB
  have r0 := Dr.cell0 (hB.cell (i := 0) rfl)
  have r1 := Dr.cell0 (hB.cell (i := 1) rfl)
  have r2 := Dr.cell0 (hB.cell (i := 2) rfl)
  have r3 := Dr.cell0 (hB.cell (i := 3) rfl)
  have r4 := Dr.cell0 (hB.cell (i := 4) rfl)
  have r5 := Dr.cell0 (hB.cell (i := 5) rfl)
  have r6 := Dr.cell0 (hB.cell (i := 6) rfl)
  have r7 := Dr.cell0 (hB.cell (i := 7) rfl)
  have v0 := Dr.cell0 (hU.cell (i := 0) rfl)
  have v1 := Dr.cell0 (hU.cell (i := 1) rfl)
  have v2 := Dr.cell0 (hU.cell (i := 2) rfl)
  have v3 := Dr.cell0 (hU.cell (i := 3) rfl)
  have v4 := Dr.cell0 (hU.cell (i := 4) rfl)
  have v5 := Dr.cell0 (hU.cell (i := 5) rfl)
  refine Dr.plan_q (l := [_, _, _, _]) rfl (fun K hK => ?_)
  iterate 4 (go_big_quiet_step (fail))
  refine wpQuiet_nil (hK _ ?_); clear hK K
  clear r0 r1 r2 r3 r4 r5 r6 r7 v0 v1 v2 v3 v4 v5 hB
  refine Dr.plan_e rfl (by rfl) (fun K hK => ?_)
  go_wp2_with fail
  refine (C2.out _).mono ?_; rintro r V1 ⟨rfl, hb1⟩
  go_wp2
  refine hK _ _ (.of hb1) ?_; clear hK K
  replace hR := hR.ext hb1
  replace hU := hU.ext hb1
  replace hbw := hbw.trans (hb1.mono (by have := hbw.size; omega))
  clear hb1
  clear C2
  cases wb
  · skip
    have HY := Lib.hid (show res = (⟨ws, bs, o, k, g, i, t, ds⟩, 2) by rw [Hres.out]; simp)
    refine Dr.plan_q (l := [_, _, _]) rfl (fun K hK => ?_)
    iterate 3 (go_big_quiet_step (fail))
    refine wpQuiet_nil (hK _ ?_); clear hK K
    with_reducible refine Dr.plan_e_skip (by with_unfolding_all exact rfl) (by with_unfolding_all rfl) ?_
    go_frame
    with_reducible refine Dr.plan_q (l := [_, _, _, _]) (by with_unfolding_all exact rfl) (fun K hK => ?_)
    iterate 4 (go_big_quiet_step (fail))
    refine wpQuiet_nil (hK _ ?_); clear hK K
    with_reducible refine Dr.plan_e_skip (by with_unfolding_all exact rfl) (by with_unfolding_all rfl) ?_
    go_frame
    with_reducible refine Dr.plan_q (l := [_, _, _, _, _]) (by with_unfolding_all exact rfl) (fun K hK => ?_)
    iterate 5 (go_big_quiet_step (fail))
    refine wpQuiet_nil (hK _ ?_); clear hK K
    with_reducible refine Dr.plan_e_skip (by with_unfolding_all exact rfl) (by with_unfolding_all rfl) ?_
    go_frame
    with_reducible refine Dr.plan_q (l := [_, _]) (by with_unfolding_all exact rfl) (fun K hK => ?_)
    iterate 2 (go_big_quiet_step (fail))
    refine wpQuiet_nil (hK _ ?_); clear hK K
    refine Dr.plan_end rfl ?_
    go_wp2
    go_ret
    exact ⟨ret_congr (int_congr (by rw [HY.out])), hbw, fun hz => by rw [HY.out] at hz; cases hz⟩
  have hB := hR.blk
  unfold rlC at hB
  simp only at hB
  have r0 := Dr.cell0 (hB.cell (i := 0) rfl)
  have r1 := Dr.cell0 (hB.cell (i := 1) rfl)
  have r2 := Dr.cell0 (hB.cell (i := 2) rfl)
  have r3 := Dr.cell0 (hB.cell (i := 3) rfl)
  have r4 := Dr.cell0 (hB.cell (i := 4) rfl)
  have r5 := Dr.cell0 (hB.cell (i := 5) rfl)
  have r6 := Dr.cell0 (hB.cell (i := 6) rfl)
  have r7 := Dr.cell0 (hB.cell (i := 7) rfl)
  have v0 := Dr.cell0 (hU.cell (i := 0) rfl)
  have v1 := Dr.cell0 (hU.cell (i := 1) rfl)
  have v2 := Dr.cell0 (hU.cell (i := 2) rfl)
  have v3 := Dr.cell0 (hU.cell (i := 3) rfl)
  have v4 := Dr.cell0 (hU.cell (i := 4) rfl)
  have v5 := Dr.cell0 (hU.cell (i := 5) rfl)
  refine Dr.plan_q (l := [_, _, _]) rfl (fun K hK => ?_)
  iterate 3 (go_big_quiet_step (fail))
  refine wpQuiet_nil (hK _ ?_); clear hK K
  clear r0 r1 r2 r3 r4 r5 r6 r7 v0 v1 v2 v3 v4 v5 hB
  refine Dr.plan_e rfl (by rfl) (fun K hK => ?_)
  go_wp2_with fail
  refine (C3.out _).mono ?_; rintro r V2 ⟨rfl, hb1⟩
  go_wp2
  refine hK _ _ (.of hb1) ?_; clear hK K
  replace hR := hR.ext hb1
  replace hU := hU.ext hb1
  replace hbw := hbw.trans (hb1.mono (by have := hbw.size; omega))
  clear hb1
  clear C3
  cases sb
  · skip
    have HY := Lib.hid (show res = (⟨ws, bs, o, k, g, i, t, ds⟩, 2) by rw [Hres.out]; simp)
    refine Dr.plan_q (l := [_, _, _, _]) rfl (fun K hK => ?_)
    iterate 4 (go_big_quiet_step (fail))
    refine wpQuiet_nil (hK _ ?_); clear hK K
    with_reducible refine Dr.plan_e_skip (by with_unfolding_all exact rfl) (by with_unfolding_all rfl) ?_
    go_frame
    with_reducible refine Dr.plan_q (l := [_, _, _, _, _]) (by with_unfolding_all exact rfl) (fun K hK => ?_)
    iterate 5 (go_big_quiet_step (fail))
    refine wpQuiet_nil (hK _ ?_); clear hK K
    with_reducible refine Dr.plan_e_skip (by with_unfolding_all exact rfl) (by with_unfolding_all rfl) ?_
    go_frame
    with_reducible refine Dr.plan_q (l := [_, _]) (by with_unfolding_all exact rfl) (fun K hK => ?_)
    iterate 2 (go_big_quiet_step (fail))
    refine wpQuiet_nil (hK _ ?_); clear hK K
    refine Dr.plan_end rfl ?_
    go_wp2
    go_ret
    exact ⟨ret_congr (int_congr (by rw [HY.out])), hbw, fun hz => by rw [HY.out] at hz; cases hz⟩
  have hB := hR.blk
  unfold rlC at hB
  simp only at hB
  have r0 := Dr.cell0 (hB.cell (i := 0) rfl)
  have r1 := Dr.cell0 (hB.cell (i := 1) rfl)
  have r2 := Dr.cell0 (hB.cell (i := 2) rfl)
  have r3 := Dr.cell0 (hB.cell (i := 3) rfl)
  have r4 := Dr.cell0 (hB.cell (i := 4) rfl)
  have r5 := Dr.cell0 (hB.cell (i := 5) rfl)
  have r6 := Dr.cell0 (hB.cell (i := 6) rfl)
  have r7 := Dr.cell0 (hB.cell (i := 7) rfl)
  have v0 := Dr.cell0 (hU.cell (i := 0) rfl)
  have v1 := Dr.cell0 (hU.cell (i := 1) rfl)
  have v2 := Dr.cell0 (hU.cell (i := 2) rfl)
  have v3 := Dr.cell0 (hU.cell (i := 3) rfl)
  have v4 := Dr.cell0 (hU.cell (i := 4) rfl)
  have v5 := Dr.cell0 (hU.cell (i := 5) rfl)
  refine Dr.plan_q (l := [_, _, _, _]) rfl (fun K hK => ?_)
  iterate 4 (go_big_quiet_step (fail))
  refine wpQuiet_nil (hK _ ?_); clear hK K
  clear r0 r1 r2 r3 r4 r5 r6 r7 v0 v1 v2 v3 v4 v5 hB
  refine Dr.plan_e rfl (by rfl) (fun K hK => ?_)
  go_wp2_with fail
  refine (C1.out _).mono ?_; rintro r V3 ⟨rfl, hb1⟩
  go_wp2
  refine hK _ _ (.of hb1) ?_; clear hK K
  replace hR := hR.ext hb1
  replace hU := hU.ext hb1
  replace hbw := hbw.trans (hb1.mono (by have := hbw.size; omega))
  clear hb1
  clear C1
  cases am
  · skip
    have HY := Lib.hid (show res = (⟨ws, bs, o, k, g, i, t, ds⟩, 2) by rw [Hres.out]; simp)
    refine Dr.plan_q (l := [_, _, _, _, _]) rfl (fun K hK => ?_)
    iterate 5 (go_big_quiet_step (fail))
    refine wpQuiet_nil (hK _ ?_); clear hK K
    with_reducible refine Dr.plan_e_skip (by with_unfolding_all exact rfl) (by with_unfolding_all rfl) ?_
    go_frame
    with_reducible refine Dr.plan_q (l := [_, _]) (by with_unfolding_all exact rfl) (fun K hK => ?_)
    iterate 2 (go_big_quiet_step (fail))
    refine wpQuiet_nil (hK _ ?_); clear hK K
    refine Dr.plan_end rfl ?_
    go_wp2
    go_ret
    exact ⟨ret_congr (int_congr (by rw [HY.out])), hbw, fun hz => by rw [HY.out] at hz; cases hz⟩
  have hB := hR.blk
  unfold rlC at hB
  simp only at hB
  have r0 := Dr.cell0 (hB.cell (i := 0) rfl)
  have r1 := Dr.cell0 (hB.cell (i := 1) rfl)
  have r2 := Dr.cell0 (hB.cell (i := 2) rfl)
  have r3 := Dr.cell0 (hB.cell (i := 3) rfl)
  have r4 := Dr.cell0 (hB.cell (i := 4) rfl)
  have r5 := Dr.cell0 (hB.cell (i := 5) rfl)
  have r6 := Dr.cell0 (hB.cell (i := 6) rfl)
  have r7 := Dr.cell0 (hB.cell (i := 7) rfl)
  have v0 := Dr.cell0 (hU.cell (i := 0) rfl)
  have v1 := Dr.cell0 (hU.cell (i := 1) rfl)
  have v2 := Dr.cell0 (hU.cell (i := 2) rfl)
  have v3 := Dr.cell0 (hU.cell (i := 3) rfl)
  have v4 := Dr.cell0 (hU.cell (i := 4) rfl)
  have v5 := Dr.cell0 (hU.cell (i := 5) rfl)
  refine Dr.plan_q (l := [_, _, _, _, _]) rfl (fun K hK => ?_)
  iterate 5 (go_big_quiet_step (fail))
  refine wpQuiet_nil (hK _ ?_); clear hK K
  clear r0 r1 r2 r3 r4 r5 r6 r7 v0 v1 v2 v3 v4 v5 hB
  refine Dr.plan_e rfl (by rfl) (fun K hK => ?_)
  go_wp2_with fail
  refine (C4.out _).mono ?_; rintro r w9 ⟨rfl, rfl⟩
  go_wp2
  refine hK _ _ (Dr.Bel.refl _ _) ?_; clear hK K
  clear C4
  cases mb
  · skip
    have HY := Lib.hid (show res = (⟨ws, bs, o, k, g, i, t, ds⟩, 2) by rw [Hres.out]; simp)
    refine Dr.plan_q (l := [_, _]) rfl (fun K hK => ?_)
    iterate 2 (go_big_quiet_step (fail))
    refine wpQuiet_nil (hK _ ?_); clear hK K
    refine Dr.plan_end rfl ?_
    go_wp2
    go_ret
    exact ⟨ret_congr (int_congr (by rw [HY.out])), hbw, fun hz => by rw [HY.out] at hz; cases hz⟩
  refine Dr.plan_q (l := [_, _]) rfl (fun K hK => ?_)
  iterate 2 (go_big_quiet_step (fail))
  refine wpQuiet_nil (hK _ ?_); clear hK K
  refine Dr.plan_end rfl ?_
  have ha := Ham.out (by first | rfl | trivial)
  have hw := Hwn.out (by first | rfl | trivial)
  have hr := Hres.out
  simp only [Bool.not_true, Bool.or_self, Bool.false_eq_true, if_false] at hr
  have Hr := Lib.hid hr
  clear hr Hres
  obtain ⟨wi, rfl⟩ : ∃ wi : Nat, a1 = wi := ⟨a1.toNat, by omega⟩
  have hwl : wi < ws.length := by omega
  have hwi : wi < n := by rw [← hR.hn]; exact hwl
  have hwi' : (wi : Int) < (n : Int) := by omega
  obtain ⟨gw, cw, hvw⟩ := hR.ow.rowOf (by show 0 < ws.length; omega)
  obtain rfl : A = some ⟨gw, 0, none⟩ := by rw [Value.slice.injEq] at hvw; exact hvw.1
  have hgU := (hAU gw rfl).2
  clear hvw hw Hwn Ham hAU
  have hgd : ws.getD wi 0 = ws[wi] := by simp [hwl]
  have hvb := Hmw.out _ (List.getElem_mem hwl)
  obtain ⟨vw, hvw⟩ : ∃ v, ws[wi] = v := ⟨_, rfl⟩
  have Hvw := Lib.hid hvw
  rw [hvw] at hvb
  have Hgd := Lib.hid (hgd.trans hvw)
  have Hwin := Lib.hid (show Led.win ⟨ws, bs, o, k, g, i, t, ds⟩ (wi : Int) = vw by show ws.getD (wi : Int).toNat 0 = vw; rw [Int.toNat_natCast]; exact Hgd.out)
  clear hvw hgd Hmw
  have hm9 := hR.m9
  have hB := hR.blk
  unfold rlC at hB
  simp only at hB
  have b1 : V3.cell? ⟨P, 1, none⟩ = _ := hB.cell (i := 1) rfl
  by_cases h100 : 100 ≤ m
  · have h100' : (100 : Int) ≤ (m : Int) := by omega
    have HY := Lib.hid (show res = (⟨ws, bs, o, k, g, i, t, ds⟩, 3) by rw [Hr.out, if_pos h100])
    go_wp2
    go_ret
    exact ⟨ret_congr (int_congr (by rw [HY.out])), hbw, fun hz => by rw [HY.out] at hz; cases hz⟩
  have h100' : ¬ (100 : Int) ≤ (m : Int) := by omega
  go_upto_region 5 with fail
  clear b1 hB
  refine Dr.wp_region_plan 6 [] (.q [0, 1, 2, 3, 4] (.e1 5 .done)) (by kernel_rfl) (by kernel_rfl) ?_
  replace hR := hR.ext (ext_drew V3)
  replace hU := hU.ext (ext_drew V3)
  replace hbw := hbw.trans ((ext_drew V3).mono (by have := hbw.size; omega))
  generalize World.drew V3 = V4 at *
  have hB := hR.blk
  unfold rlC at hB
  simp only at hB
  have r0 := Dr.cell0 (hB.cell (i := 0) rfl)
  have r1 := Dr.cell0 (hB.cell (i := 1) rfl)
  have r2 := Dr.cell0 (hB.cell (i := 2) rfl)
  have r3 := Dr.cell0 (hB.cell (i := 3) rfl)
  have r4 := Dr.cell0 (hB.cell (i := 4) rfl)
  have r5 := Dr.cell0 (hB.cell (i := 5) rfl)
  have r6 := Dr.cell0 (hB.cell (i := 6) rfl)
  have r7 := Dr.cell0 (hB.cell (i := 7) rfl)
  have v0 := Dr.cell0 (hU.cell (i := 0) rfl)
  have v1 := Dr.cell0 (hU.cell (i := 1) rfl)
  have v2 := Dr.cell0 (hU.cell (i := 2) rfl)
  have v3 := Dr.cell0 (hU.cell (i := 3) rfl)
  have v4 := Dr.cell0 (hU.cell (i := 4) rfl)
  have v5 := Dr.cell0 (hU.cell (i := 5) rfl)
  refine Dr.plan_q (l := [_, _, _, _, _]) rfl (fun K hK => ?_)
  iterate 5 (go_big_quiet_step (fail))
  refine wpQuiet_nil (hK _ ?_); clear hK K
  clear r0 r1 r2 r3 r4 r5 r6 r7 v0 v1 v2 v3 v4 v5 hB
  refine Dr.plan_e rfl (by rfl) (fun K hK => ?_)
  go_wp2_with fail
  refine (C5.out _ hR.led).mono ?_; rintro r V5 ⟨rfl, hb1⟩
  go_wp2
  refine hK _ _ (.of hb1) ?_; clear hK K
  replace hR := hR.ext hb1
  replace hU := hU.ext hb1
  replace hbw := hbw.trans (hb1.mono (by have := hbw.size; omega))
  clear hb1
  clear C5
  refine Dr.plan_end rfl ?_
  cases sd
  rotate_left
  · have HY := Lib.hid (show res = (⟨ws, bs, o, k, g, i, t, ds⟩, 6) by rw [Hr.out, if_neg h100]; rfl)
    go_wp2
    go_ret
    exact ⟨ret_congr (int_congr (by rw [HY.out])), hbw, fun hz => by rw [HY.out] at hz; cases hz⟩
  go_upto_region 7 with fail
  refine Dr.wp_region_plan 11 [] (.q [0, 1, 2, 3, 4, 5, 6, 7, 8, 9, 10] .done) (by kernel_rfl) (by kernel_rfl) ?_
  have hR' := hR.ext (ext_drew V5)
  have hU' := hU.ext (ext_drew V5)
  have hbw' := hbw.trans ((ext_drew V5).mono (by have := hbw.size; omega))
  clear hR hU hbw
  generalize World.drew V5 = W2 at *
  have hR := hR'
  have hU := hU'
  have hbw := hbw'
  clear hR' hU' hbw'
  obtain ⟨A7, q7, hv7, -, -, hC7⟩ := hR.ow.cells encI_len
  obtain ⟨rfl, rfl⟩ : A7 = some ⟨gw, 0, none⟩ ∧ c = q7 := by have h := hv7; rw [Value.slice.injEq] at h; exact ⟨h.1.symm, h.2.2⟩
  clear hv7
  obtain ⟨b7, o7, e7, -, t0⟩ := hC7.at1 (k := wi) hwl rfl
  obtain ⟨rfl, rfl⟩ : gw = b7 ∧ 0 = o7 := by simpa [eq_comm] using e7
  rw [Nat.zero_add, Hvw.out] at t0
  clear e7 hC7
  have hB := hR.blk
  unfold rlC at hB
  simp only at hB
  have r0 := Dr.cell0 (hB.cell (i := 0) rfl)
  have r1 := Dr.cell0 (hU.cell (i := 1) rfl)
  have r4 := Dr.cell0 (hU.cell (i := 4) rfl)
  have r5 := Dr.cell0 t0
  by_cases hlt : vw < a4
  · have HY := Lib.hid (show res = (⟨ws, bs, o, k, g, i, t, ds⟩, 7) by rw [Hr.out, if_neg h100, Hwin.out, if_neg (by simp), if_pos hlt])
    refine Dr.plan_q (l := [_, _, _, _, _, _, _, _, _, _, _]) rfl (fun K hK => ?_)
    iterate 11 (go_big_quiet_step (fail))
    refine wpQuiet_nil (hK _ ?_); clear hK K
    refine Dr.plan_end rfl ?_
    go_wp2
    go_ret
    exact ⟨ret_congr (int_congr (by rw [HY.out])), hbw, fun hz => by rw [HY.out] at hz; cases hz⟩
  have HY := Lib.hid (show res = (⟨ws.set wi (vw - a4), bs ++ [⟨(wi : Int), a3, a5, a4, a3, false⟩], o, k, g, i, t, ds⟩, 0) by rw [Hr.out, if_neg h100, Hwin.out, if_neg (by simp), if_neg hlt]; simp [Led.addW, ← Hgd.out, Int.sub_eq_add_neg])
  clear Hr
  refine Dr.plan_q (l := [_, _, _, _, _, _, _, _, _, _, _]) rfl (fun K hK => ?_)
  iterate 11 (go_big_quiet_step (fail))
  refine wpQuiet_nil (hK _ ?_); clear hK K
  refine Dr.plan_end rfl ?_
  clear r0 r1 r4 r5 hB t0
  go_upto_region 9 with fail
  refine Dr.wp_region_plan 12 [] (.q [0, 1, 2, 3, 4, 5, 6, 7, 8, 9, 10, 11] .done) (by kernel_rfl) (by kernel_rfl) ?_
  have hR' := hR.ext (ext_drew W2)
  have hU' := hU.ext (ext_drew W2)
  have hbw' := hbw.trans ((ext_drew W2).mono (by have := hbw.size; omega))
  clear hR hU hbw
  generalize World.drew W2 = W5 at *
  have hR := hR'
  have hU := hU'
  have hbw := hbw'
  clear hR' hU' hbw'
  obtain ⟨A7, q7, hv7, -, -, hC7⟩ := hR.ow.cells encI_len
  obtain ⟨rfl, rfl⟩ : A7 = some ⟨gw, 0, none⟩ ∧ c = q7 := by have h := hv7; rw [Value.slice.injEq] at h; exact ⟨h.1.symm, h.2.2⟩
  clear hv7
  obtain ⟨b7, o7, e7, -, t0⟩ := hC7.at1 (k := wi) hwl rfl
  obtain ⟨rfl, rfl⟩ : gw = b7 ∧ 0 = o7 := by simpa [eq_comm] using e7
  rw [Nat.zero_add, Hvw.out] at t0
  clear e7 hC7
  have hB := hR.blk
  unfold rlC at hB
  simp only at hB
  have r0 := Dr.cell0 (hB.cell (i := 0) rfl)
  have r1 := Dr.cell0 (hU.cell (i := 1) rfl)
  have r4 := Dr.cell0 (hU.cell (i := 4) rfl)
  have r5 := Dr.cell0 t0
  refine Dr.plan_q (l := [_, _, _, _, _, _, _, _, _, _, _, _]) rfl (fun K hK => ?_)
  iterate 12 (go_big_quiet_step (fail))
  refine wpQuiet_nil (hK _ ?_); clear hK K
  clear r0 r1 r4 r5
  refine Dr.plan_done (tl := [_]) rfl ?_
  have f0 := hR.ow.frozen wi
  have hR' := hR.putW hwi (vw - a4)
  simp only at hR'
  have hgl := hR.ow.block_ge rfl gw rfl
  have hU' := hU.other (p := ⟨gw, wi, none⟩) (by simp only; omega) (.int .i64 (vw - a4))
  have hbw' := hbw.setCell (p := ⟨gw, wi, none⟩) hgl.1 (.int .i64 (vw - a4))
  clear hR hU hbw hB hgl
  go_upto_region 10 with fail
  clear t0 f0
  generalize W5.setCell ⟨gw, wi, none⟩ (.int .i64 (vw - a4)) = W6 at *
  have hR := hR'
  have hU := hU'
  have hbw := hbw'
  clear hR' hU' hbw'
  generalize hgv : (Value.slice B m d).ownBlock.getD W6.heap.size = gv
  have n1 : P ≠ gv := by
    have hl := hR.blk.lt
    intro e1
    cases hv : (Value.slice B m d).ownBlock with
    | none => rw [hv] at hgv; simp at hgv; omega
    | some kk => rw [hv] at hgv; simp at hgv; exact hR.pb (by rw [hv, hgv, e1])
  have n2 : U ≠ gv := by
    have hl := hU.lt
    intro e1
    cases hv : (Value.slice B m d).ownBlock with
    | none => rw [hv] at hgv; simp at hgv; omega
    | some kk => rw [hv] at hgv; simp at hgv; have := hBU kk hv; omega
  have hvk : ∀ kk, (Value.slice B m d).ownBlock = some kk → kk = gv := fun kk hv => by rw [hv] at hgv; simpa using hgv
  clear hgv
  refine Dr.wp_region_plan 20 [gv] (.q [0, 1, 2, 3, 4, 5, 6, 7, 8, 9, 10, 11, 12, 13, 14, 15] (.e1 16 (.e1 17 (.q [18, 19] .done)))) (by kernel_rfl) (by kernel_rfl) ?_
  replace hR := hR.ext (ext_drew W6)
  replace hU := hU.ext (ext_drew W6)
  replace hbw := hbw.trans ((ext_drew W6).mono (by have := hbw.size; omega))
  generalize World.drew W6 = W7 at *
  have hB := hR.blk
  unfold rlC at hB
  simp only at hB
  have r1 := Dr.cls_cell (M := [gv]) (hB.cell (i := 1) rfl) (by simp; omega)
  have v1 := Dr.cls_cell (M := [gv]) (hU.cell (i := 1) rfl) (by simp; omega)
  have v3 := Dr.cls_cell (M := [gv]) (hU.cell (i := 3) rfl) (by simp; omega)
  have v4 := Dr.cls_cell (M := [gv]) (hU.cell (i := 4) rfl) (by simp; omega)
  have v5 := Dr.cls_cell (M := [gv]) (hU.cell (i := 5) rfl) (by simp; omega)
  refine Dr.plan_q (l := [_, _, _, _, _, _, _, _, _, _, _, _, _, _, _, _]) rfl (fun K hK => ?_)
  iterate 16 (go_big_quiet_step (fail))
  refine wpQuiet_nil (hK _ ?_); clear hK K
  clear r1 v1 v3 v4 v5
  refine Dr.plan_e rfl (by rfl) (fun K hK => ?_)
  go_wp2_with fail
  refine hK _ _ (.of (ext_alloc _ _)) ?_; clear hK K
  have nw := Blk.new W7 83 [.int .i64 (wi : Int), .int .i64 a3, .int .i64 a5, .int .i64 a4, .int .i64 a3, .bool false]
  have hal := ext_alloc W7 (.cells #[.int .i64 (wi : Int), .int .i64 a3, .int .i64 a5, .int .i64 a4, .int .i64 a3, .bool false] 83)
  have hsz := hbw.size
  replace hR := hR.ext hal
  replace hbw := hbw.trans (hal.mono (by omega))
  change Blk (W7.alloc (.cells #[.int .i64 (wi : Int), .int .i64 a3, .int .i64 a5, .int .i64 a4, .int .i64 a3, .bool false] 83)) _ _ _ at nw
  clear hB hal hU
  have hmc : bs.length = m := hR.hm
  generalize W7.alloc (.cells #[.int .i64 (wi : Int), .int .i64 a3, .int .i64 a5, .int .i64 a4, .int .i64 a3, .bool false] 83) = W8 at *
  generalize W7.heap.size = N1 at *
  have hbs : base ≤ W8.heap.size := by have := hbw.size; omega
  refine Dr.plan_e rfl (by rfl) (fun K hK => ?_)
  refine wp_app1 Bag.enc 23 83 6 48 et23 (by decide) (by decide) bag_len bag_one _ _ rfl base _ bs rfl hR.ob N1 rfl ⟨(wi : Int), a3, a5, a4, a3, false⟩ (fun jj u hu => nw.cell hu) (by omega) hbs ?_
  intro g2 c2 X2 ho2 hbl2 hgr2 hat2
  refine hK _ _ (bel_grown hgr2 hvk (by simp)) ?_; clear hK K
  go_frame
  rw [hmc] at ho2 ⊢
  have hfin := hR.appB ⟨(wi : Int), a3, a5, a4, a3, false⟩ ho2 hgr2 hat2 (by omega)
  have hPX := kept_blk hR.blk hgr2 hR.pb
  replace hbw := hbw.trans hbl2
  clear hR nw hgr2 hat2 ho2 hbl2
  unfold rlC at hPX
  simp only at hPX
  refine Dr.plan_q (l := [_, _]) rfl (fun K hK => ?_)
  iterate 2 (go_big_quiet_step (fail))
  refine wpQuiet_nil (hK _ ?_); clear hK K
  have z1 : X2.cell? ⟨P, 1, none⟩ = _ := hPX.cell (i := 1) rfl
  have f1 := hPX.free 1
  refine Dr.plan_done (tl := [_]) rfl ?_
  go_wp2
  go_ret
  exact ⟨ret_congr (int_congr (by rw [HY.out])), hbw.setCell hP0 _, fun _ => by rw [HY.out]; exact ⟨_, _, _, hfin⟩⟩
end Go.Proofs.YtnjdlhhgnamigaaGreat

/- Walk: way, of the reference (kind 5). -/
namespace Go.Pu
open Go.Pl
def touchR (l : Led) (a2 a3 a4 : Int) : Led × Int :=
  if !l.bgB a2 || (!sealB a3 || !monB a4) then (l, 2) else if (l.bg a2).opened then (l, 8) else if l.sealed a3 (-1) then (l, 6) else if (l.bg a2).holds < a4 then (l, 7) else ({ l.setBag a2 { l.bg a2 with holds := (l.bg a2).holds - a4, now := a3 } with out := l.out + a4 }, 0)
end Go.Pu
namespace Go.Proofs.YtnjdlhhgnamigaaGreat
open Go.RowKit Go.Bs Go.Pu Go.Pl Go.Sort
set_option maxRecDepth 100000 in
set_option maxHeartbeats 8000000 in
theorem way5_any {base : Nat} {w : World} {P : Nat} {A : Option Addr} {n c : Nat} {B : Option Addr} {m d : Nat} {D : Option Addr} {q e : Nat} {l : Led} (h : RefM base w P A n c B m d D q e l) (hmon : l.mon) (_hq : q ≤ 900) (a1 a2 a3 a4 a5 : Int) :
    Calls Tryz.prog 37 #[.pointer (some ⟨P, 0, none⟩), Act.val ⟨5, a1, a2, a3, a4, a5⟩] w fun r w' => r = .returned (.int .i64 (touchR l a2 a3 a4).2) ∧ Below base w w' ∧ ((touchR l a2 a3 a4).2 = 0 → ∃ D' q' e', RefM base w' P A n c B m d D' q' e' (touchR l a2 a3 a4).1) := by
  have C0 := Lib.hid (fun W => In_any a2 0 ((m : Int) - 1) W)
  have C3 := Lib.hid (fun W => (show Calls Tryz.prog 61 #[.agg #[.int .u8 5, .int .i64 a1, .int .i64 a2, .int .i64 a3, .int .i64 a4, .int .i64 a5]] W fun r w' => r = .returned (.bool (sealB a3)) ∧ Below W.heap.size W w' from sealR_any ⟨5, a1, a2, a3, a4, a5⟩ W))
  have C4 := Lib.hid (fun W => moneyR_any a4 W)
  have C5 := Lib.hid (fun W hM => sealedR_any l A n c B m d D q e a3 (-1) W hM)
  have Hwn := Lib.hid (show decide (0 ≤ a2 ∧ a2 ≤ (m : Int) - 1) = true → 0 ≤ a2 ∧ a2 ≤ (m : Int) - 1 from fun h => of_decide_eq_true h)
  have Hmo := Lib.hid (show monB a4 = true → 0 ≤ a4 ∧ a4 ≤ 1000000000000 from fun h => of_decide_eq_true h)
  have hres : touchR l a2 a3 a4 = if !l.bgB a2 || (!sealB a3 || !monB a4) then (l, 2) else if (l.bg a2).opened then (l, 8) else if l.sealed a3 (-1) then (l, 6) else if (l.bg a2).holds < a4 then (l, 7) else ({ l.setBag a2 { l.bg a2 with holds := (l.bg a2).holds - a4, now := a3 } with out := l.out + a4 }, 0) := rfl
  rw [show l.bgB a2 = decide (0 ≤ a2 ∧ a2 ≤ (m : Int) - 1) by unfold Led.bgB; rw [h.hm]] at hres
  generalize touchR l a2 a3 a4 = res at *
  generalize sealB a3 = sb at *
  generalize monB a4 = mb at *
  generalize hsd : l.sealed a3 (-1) = sd at *
  generalize decide (0 ≤ a2 ∧ a2 ≤ (m : Int) - 1) = wb at *
  clear hsd
  have Hres := Lib.hid hres
  clear hres
  unfold ledV at C5
  unfold Act.val
  have hBU : ∀ kk, B.map (·.block) = some kk → base ≤ kk ∧ kk < w.heap.size := h.ob.block_ge rfl
  have hDU : ∀ kk, (Value.slice D q e).ownBlock = some kk → kk < w.heap.size := fun kk hv => (h.od.lt hv).2
  have hP0 := h.hP
  have hPl := h.blk.lt
  have hPb : base ≤ w.heap.size := Nat.le_trans hP0 (Nat.le_of_lt hPl)
  have hbw : Below base w (w.alloc (.cells #[.int .u8 5, .int .i64 a1, .int .i64 a2, .int .i64 a3, .int .i64 a4, .int .i64 a5] 48)) := (Below.refl _ _).alloc hPb _
  have hU := Blk.new w 48 [.int .u8 5, .int .i64 a1, .int .i64 a2, .int .i64 a3, .int .i64 a4, .int .i64 a5]
  have hR := h.ext (ext_alloc w (.cells #[.int .u8 5, .int .i64 a1, .int .i64 a2, .int .i64 a3, .int .i64 a4, .int .i64 a5] 48))
  have ho := hmon.o
  have hk := hmon.k
  have hi := hmon.i
  have ht := hmon.t
  clear h
  have Hmh := Lib.hid hmon.h
  obtain ⟨ws, bs, o, k, g, i, t, ds⟩ := l
  simp only at ho hk hi ht Hres Hmh C5
  clear hmon
  have hm9 := hR.m9
  go_enter Tryz.func37, Tryz.ntmps37
  go_upto_region 1 with fail
  change Blk (w.alloc (.cells #[.int .u8 5, .int .i64 a1, .int .i64 a2, .int .i64 a3, .int .i64 a4, .int .i64 a5] 48)) _ _ _ at hU
  generalize hU0 : w.heap.size = U at *
  generalize w.alloc (.cells #[.int .u8 5, .int .i64 a1, .int .i64 a2, .int .i64 a3, .int .i64 a4, .int .i64 a5] 48) = W0 at *
  refine Dr.wp_region_plan 26 [] (.q [0, 1, 2, 3, 4, 5, 6, 7] (.e1 8 (.q [9, 10, 11, 12, 13, 14, 15] (.e1 16 (.q [17, 18, 19, 20] (.e1 21 (.q [22, 23, 24, 25] .done))))))) (by kernel_rfl) (by kernel_rfl) ?_
  replace hR := hR.ext (ext_drew W0)
  replace hU := hU.ext (ext_drew W0)
  replace hbw := hbw.trans ((ext_drew W0).mono (by have := hbw.size; omega))
  generalize World.drew W0 = V at *
  have hB := hR.blk
  unfold rlC at hB
  simp only at hB
  have r0 := Dr.cell0 (hB.cell (i := 0) rfl)
  have r1 := Dr.cell0 (hB.cell (i := 1) rfl)
  have r2 := Dr.cell0 (hB.cell (i := 2) rfl)
  have r3 := Dr.cell0 (hB.cell (i := 3) rfl)
  have r4 := Dr.cell0 (hB.cell (i := 4) rfl)
  have r5 := Dr.cell0 (hB.cell (i := 5) rfl)
  have r6 := Dr.cell0 (hB.cell (i := 6) rfl)
  have r7 := Dr.cell0 (hB.cell (i := 7) rfl)
  have v0 := Dr.cell0 (hU.cell (i := 0) rfl)
  have v1 := Dr.cell0 (hU.cell (i := 1) rfl)
  have v2 := Dr.cell0 (hU.cell (i := 2) rfl)
  have v3 := Dr.cell0 (hU.cell (i := 3) rfl)
  have v4 := Dr.cell0 (hU.cell (i := 4) rfl)
  have v5 := Dr.cell0 (hU.cell (i := 5) rfl)
  refine Dr.plan_q (l := [_, _, _, _, _, _, _, _]) rfl (fun K hK => ?_)
  iterate 8 (go_big_quiet_step (fail))
  refine wpQuiet_nil (hK _ ?_); clear hK K
  refine Dr.plan_e rfl (by rfl) (fun K hK => ?_)
  go_wp2_with fail
  refine (C0.out _).mono ?_; rintro r w9 ⟨rfl, rfl⟩
  go_wp2
  refine hK _ _ (Dr.Bel.refl _ _) ?_; clear hK K
  clear C0
  cases wb
  · skip
    have HY := Lib.hid (show res = (⟨ws, bs, o, k, g, i, t, ds⟩, 2) by rw [Hres.out]; simp)
    refine Dr.plan_q (l := [_, _, _, _, _, _, _]) rfl (fun K hK => ?_)
    iterate 7 (go_big_quiet_step (fail))
    refine wpQuiet_nil (hK _ ?_); clear hK K
    with_reducible refine Dr.plan_e_skip (by with_unfolding_all exact rfl) (by with_unfolding_all rfl) ?_
    go_frame
    with_reducible refine Dr.plan_q (l := [_, _, _, _]) (by with_unfolding_all exact rfl) (fun K hK => ?_)
    iterate 4 (go_big_quiet_step (fail))
    refine wpQuiet_nil (hK _ ?_); clear hK K
    with_reducible refine Dr.plan_e_skip (by with_unfolding_all exact rfl) (by with_unfolding_all rfl) ?_
    go_frame
    with_reducible refine Dr.plan_q (l := [_, _, _, _]) (by with_unfolding_all exact rfl) (fun K hK => ?_)
    iterate 4 (go_big_quiet_step (fail))
    refine wpQuiet_nil (hK _ ?_); clear hK K
    refine Dr.plan_end rfl ?_
    go_wp2
    go_ret
    exact ⟨ret_congr (int_congr (by rw [HY.out])), hbw, fun hz => by rw [HY.out] at hz; cases hz⟩
  refine Dr.plan_q (l := [_, _, _, _, _, _, _]) rfl (fun K hK => ?_)
  iterate 7 (go_big_quiet_step (fail))
  refine wpQuiet_nil (hK _ ?_); clear hK K
  clear r0 r1 r2 r3 r4 r5 r6 r7 v0 v1 v2 v3 v4 v5 hB
  refine Dr.plan_e rfl (by rfl) (fun K hK => ?_)
  go_wp2_with fail
  refine (C3.out _).mono ?_; rintro r V1 ⟨rfl, hb1⟩
  go_wp2
  refine hK _ _ (.of hb1) ?_; clear hK K
  replace hR := hR.ext hb1
  replace hU := hU.ext hb1
  replace hbw := hbw.trans (hb1.mono (by have := hbw.size; omega))
  clear hb1
  clear C3
  cases sb
  · skip
    have HY := Lib.hid (show res = (⟨ws, bs, o, k, g, i, t, ds⟩, 2) by rw [Hres.out]; simp)
    refine Dr.plan_q (l := [_, _, _, _]) rfl (fun K hK => ?_)
    iterate 4 (go_big_quiet_step (fail))
    refine wpQuiet_nil (hK _ ?_); clear hK K
    with_reducible refine Dr.plan_e_skip (by with_unfolding_all exact rfl) (by with_unfolding_all rfl) ?_
    go_frame
    with_reducible refine Dr.plan_q (l := [_, _, _, _]) (by with_unfolding_all exact rfl) (fun K hK => ?_)
    iterate 4 (go_big_quiet_step (fail))
    refine wpQuiet_nil (hK _ ?_); clear hK K
    refine Dr.plan_end rfl ?_
    go_wp2
    go_ret
    exact ⟨ret_congr (int_congr (by rw [HY.out])), hbw, fun hz => by rw [HY.out] at hz; cases hz⟩
  have hB := hR.blk
  unfold rlC at hB
  simp only at hB
  have r0 := Dr.cell0 (hB.cell (i := 0) rfl)
  have r1 := Dr.cell0 (hB.cell (i := 1) rfl)
  have r2 := Dr.cell0 (hB.cell (i := 2) rfl)
  have r3 := Dr.cell0 (hB.cell (i := 3) rfl)
  have r4 := Dr.cell0 (hB.cell (i := 4) rfl)
  have r5 := Dr.cell0 (hB.cell (i := 5) rfl)
  have r6 := Dr.cell0 (hB.cell (i := 6) rfl)
  have r7 := Dr.cell0 (hB.cell (i := 7) rfl)
  have v0 := Dr.cell0 (hU.cell (i := 0) rfl)
  have v1 := Dr.cell0 (hU.cell (i := 1) rfl)
  have v2 := Dr.cell0 (hU.cell (i := 2) rfl)
  have v3 := Dr.cell0 (hU.cell (i := 3) rfl)
  have v4 := Dr.cell0 (hU.cell (i := 4) rfl)
  have v5 := Dr.cell0 (hU.cell (i := 5) rfl)
  refine Dr.plan_q (l := [_, _, _, _]) rfl (fun K hK => ?_)
  iterate 4 (go_big_quiet_step (fail))
  refine wpQuiet_nil (hK _ ?_); clear hK K
  clear r0 r1 r2 r3 r4 r5 r6 r7 v0 v1 v2 v3 v4 v5 hB
  refine Dr.plan_e rfl (by rfl) (fun K hK => ?_)
  go_wp2_with fail
  refine (C4.out _).mono ?_; rintro r w9 ⟨rfl, rfl⟩
  go_wp2
  refine hK _ _ (Dr.Bel.refl _ _) ?_; clear hK K
  clear C4
  cases mb
  · skip
    have HY := Lib.hid (show res = (⟨ws, bs, o, k, g, i, t, ds⟩, 2) by rw [Hres.out]; simp)
    refine Dr.plan_q (l := [_, _, _, _]) rfl (fun K hK => ?_)
    iterate 4 (go_big_quiet_step (fail))
    refine wpQuiet_nil (hK _ ?_); clear hK K
    refine Dr.plan_end rfl ?_
    go_wp2
    go_ret
    exact ⟨ret_congr (int_congr (by rw [HY.out])), hbw, fun hz => by rw [HY.out] at hz; cases hz⟩
  refine Dr.plan_q (l := [_, _, _, _]) rfl (fun K hK => ?_)
  iterate 4 (go_big_quiet_step (fail))
  refine wpQuiet_nil (hK _ ?_); clear hK K
  refine Dr.plan_end rfl ?_
  have hw := Hwn.out (by first | rfl | trivial)
  have ha := Hmo.out (by first | rfl | trivial)
  have hr := Hres.out
  simp only [Bool.not_true, Bool.or_self, Bool.false_eq_true, if_false] at hr
  obtain ⟨bi, rfl⟩ : ∃ bi : Nat, a2 = bi := ⟨a2.toNat, by omega⟩
  have hbi : bi < m := by omega
  have hbi' : (bi : Int) < (m : Int) := by omega
  have hbl : bi < bs.length := by have := hR.hm; simp only at this; omega
  obtain ⟨gb, cb, hvw⟩ := hR.ob.rowOf (by show 0 < bs.length; omega)
  obtain rfl : B = some ⟨gb, 0, none⟩ := by rw [Value.slice.injEq] at hvw; exact hvw.1
  have hgU := (hBU gb rfl).2
  have hgB := (hBU gb rfl).1
  clear hvw hw Hwn Hmo hBU
  have hxb := Hmh.out _ (List.getElem_mem hbl)
  have hbg : Led.bg ⟨ws, bs, o, k, g, i, t, ds⟩ (bi : Int) = bs[bi] := by show bs.getD (bi : Int).toNat default = _; simp [hbl]
  rw [hbg] at hr
  obtain ⟨x, hx⟩ : ∃ x, bs[bi] = x := ⟨_, rfl⟩
  rw [hx] at hr hxb
  have Hx := Lib.hid hx
  have Hr := Lib.hid hr
  clear hr Hres hx hbg Hmh
  obtain ⟨x0, x1, x2, x3, x4, x5⟩ := x
  simp only at hxb Hr
  go_upto_region 3 with fail
  refine Dr.wp_region_plan 8 [] (.q [0, 1, 2, 3, 4, 5, 6, 7] .done) (by kernel_rfl) (by kernel_rfl) ?_
  have hR' := hR.ext (ext_drew V1)
  have hU' := hU.ext (ext_drew V1)
  have hbw' := hbw.trans ((ext_drew V1).mono (by have := hbw.size; omega))
  clear hR hU hbw
  generalize World.drew V1 = W2 at *
  have hR := hR'
  have hU := hU'
  have hbw := hbw'
  clear hR' hU' hbw'
  have hB := hR.blk
  unfold rlC at hB
  simp only at hB
  have p1 := Dr.cell0 (hB.cell (i := 1) rfl)
  have v2 := Dr.cell0 (hU.cell (i := 2) rfl)
  refine Dr.plan_q (l := [_, _, _, _, _, _, _, _]) rfl (fun K hK => ?_)
  iterate 8 (go_big_quiet_step (fail))
  refine wpQuiet_nil (hK _ ?_); clear hK K
  refine Dr.plan_end rfl ?_
  clear hB p1 v2
  obtain ⟨A7, q7, hv7, -, -, hC7⟩ := hR.ob.cells bag_len
  obtain ⟨rfl, rfl⟩ : A7 = some ⟨gb, 0, none⟩ ∧ d = q7 := by have h := hv7; rw [Value.slice.injEq] at h; exact ⟨h.1.symm, h.2.2⟩
  clear hv7
  obtain ⟨b7, o7, e7, -, t0, t1, t2, t3, t4, t5⟩ := hC7.at6 (k := bi) (by first | exact hbl | (rw [List.length_set]; exact hbl)) rfl
  obtain ⟨rfl, rfl⟩ : gb = b7 ∧ 0 = o7 := by simpa [eq_comm] using e7
  rw [Nat.zero_add, Hx.out] at t5
  clear e7 hC7 t0 t1 t2 t3 t4
  cases x5
  rotate_left
  · have HY := Lib.hid (show res = (⟨ws, bs, o, k, g, i, t, ds⟩, 8) by rw [Hr.out]; simp)
    go_wp2
    go_ret
    exact ⟨ret_congr (int_congr (by rw [HY.out])), hbw, fun hz => by rw [HY.out] at hz; cases hz⟩
  have hr := Hr.out
  simp only [Bool.false_eq_true, if_false] at hr
  have Hr2 := Lib.hid hr
  clear hr Hr
  have u0 : W2.cell? ⟨U, 0, none⟩ = _ := hU.cell (i := 0) rfl
  go_upto_region 12 with fail
  clear u0 t5
  refine Dr.wp_region_plan 6 [] (.q [0, 1, 2, 3, 4] (.e1 5 .done)) (by kernel_rfl) (by kernel_rfl) ?_
  replace hR := hR.ext (ext_drew W2)
  replace hU := hU.ext (ext_drew W2)
  replace hbw := hbw.trans ((ext_drew W2).mono (by have := hbw.size; omega))
  generalize World.drew W2 = V4 at *
  have hB := hR.blk
  unfold rlC at hB
  simp only at hB
  have r0 := Dr.cell0 (hB.cell (i := 0) rfl)
  have r1 := Dr.cell0 (hB.cell (i := 1) rfl)
  have r2 := Dr.cell0 (hB.cell (i := 2) rfl)
  have r3 := Dr.cell0 (hB.cell (i := 3) rfl)
  have r4 := Dr.cell0 (hB.cell (i := 4) rfl)
  have r5 := Dr.cell0 (hB.cell (i := 5) rfl)
  have r6 := Dr.cell0 (hB.cell (i := 6) rfl)
  have r7 := Dr.cell0 (hB.cell (i := 7) rfl)
  have v0 := Dr.cell0 (hU.cell (i := 0) rfl)
  have v1 := Dr.cell0 (hU.cell (i := 1) rfl)
  have v2 := Dr.cell0 (hU.cell (i := 2) rfl)
  have v3 := Dr.cell0 (hU.cell (i := 3) rfl)
  have v4 := Dr.cell0 (hU.cell (i := 4) rfl)
  have v5 := Dr.cell0 (hU.cell (i := 5) rfl)
  refine Dr.plan_q (l := [_, _, _, _, _]) rfl (fun K hK => ?_)
  iterate 5 (go_big_quiet_step (fail))
  refine wpQuiet_nil (hK _ ?_); clear hK K
  clear r0 r1 r2 r3 r4 r5 r6 r7 v0 v1 v2 v3 v4 v5 hB
  refine Dr.plan_e rfl (by rfl) (fun K hK => ?_)
  go_wp2_with fail
  refine (C5.out _ hR.led).mono ?_; rintro r V5 ⟨rfl, hb1⟩
  go_wp2
  refine hK _ _ (.of hb1) ?_; clear hK K
  replace hR := hR.ext hb1
  replace hU := hU.ext hb1
  replace hbw := hbw.trans (hb1.mono (by have := hbw.size; omega))
  clear hb1
  clear C5
  refine Dr.plan_end rfl ?_
  cases sd
  rotate_left
  · have HY := Lib.hid (show res = (⟨ws, bs, o, k, g, i, t, ds⟩, 6) by rw [Hr2.out]; rfl)
    go_wp2
    go_ret
    exact ⟨ret_congr (int_congr (by rw [HY.out])), hbw, fun hz => by rw [HY.out] at hz; cases hz⟩
  go_upto_region 14 with fail
  refine Dr.wp_region_plan 7 [] (.q [0, 1, 2, 3, 4, 5, 6] .done) (by kernel_rfl) (by kernel_rfl) ?_
  have hR' := hR.ext (ext_drew V5)
  have hU' := hU.ext (ext_drew V5)
  have hbw' := hbw.trans ((ext_drew V5).mono (by have := hbw.size; omega))
  clear hR hU hbw
  generalize World.drew V5 = W3 at *
  have hR := hR'
  have hU := hU'
  have hbw := hbw'
  clear hR' hU' hbw'
  obtain ⟨A7, q7, hv7, -, -, hC7⟩ := hR.ob.cells bag_len
  obtain ⟨rfl, rfl⟩ : A7 = some ⟨gb, 0, none⟩ ∧ d = q7 := by have h := hv7; rw [Value.slice.injEq] at h; exact ⟨h.1.symm, h.2.2⟩
  clear hv7
  obtain ⟨b7, o7, e7, -, t0, t1, t2, t3, t4, t5⟩ := hC7.at6 (k := bi) (by first | exact hbl | (rw [List.length_set]; exact hbl)) rfl
  obtain ⟨rfl, rfl⟩ : gb = b7 ∧ 0 = o7 := by simpa [eq_comm] using e7
  rw [Nat.zero_add, Hx.out] at t3
  clear e7 hC7 t0 t1 t2 t4 t5
  have hB := hR.blk
  unfold rlC at hB
  simp only at hB
  have v4 := Dr.cell0 (hU.cell (i := 4) rfl)
  have y3 := Dr.cell0 t3
  by_cases hlt : x3 < a4
  · have HY := Lib.hid (show res = (⟨ws, bs, o, k, g, i, t, ds⟩, 7) by rw [Hr2.out, if_neg (by simp), if_pos hlt])
    refine Dr.plan_q (l := [_, _, _, _, _, _, _]) rfl (fun K hK => ?_)
    iterate 7 (go_big_quiet_step (fail))
    refine wpQuiet_nil (hK _ ?_); clear hK K
    refine Dr.plan_end rfl ?_
    go_wp2
    go_ret
    exact ⟨ret_congr (int_congr (by rw [HY.out])), hbw, fun hz => by rw [HY.out] at hz; cases hz⟩
  have HY := Lib.hid (show res = (⟨ws, bs.set bi ⟨x0, x1, x2, x3 - a4, a3, false⟩, o, k, g, i, t + a4, ds⟩, 0) by rw [Hr2.out, if_neg (by simp), if_neg hlt]; simp [Led.setBag])
  clear Hr2
  refine Dr.plan_q (l := [_, _, _, _, _, _, _]) rfl (fun K hK => ?_)
  iterate 7 (go_big_quiet_step (fail))
  refine wpQuiet_nil (hK _ ?_); clear hK K
  refine Dr.plan_end rfl ?_
  clear hB v4 y3
  clear t3
  go_upto_region 16 with fail
  refine Dr.wp_region_plan 9 [] (.q [0, 1, 2, 3, 4, 5, 6, 7, 8] .done) (by kernel_rfl) (by kernel_rfl) ?_
  have hR' := hR.ext (ext_drew W3)
  have hU' := hU.ext (ext_drew W3)
  have hbw' := hbw.trans ((ext_drew W3).mono (by have := hbw.size; omega))
  clear hR hU hbw
  generalize World.drew W3 = W4 at *
  have hR := hR'
  have hU := hU'
  have hbw := hbw'
  clear hR' hU' hbw'
  obtain ⟨A7, q7, hv7, -, -, hC7⟩ := hR.ob.cells bag_len
  obtain ⟨rfl, rfl⟩ : A7 = some ⟨gb, 0, none⟩ ∧ d = q7 := by have h := hv7; rw [Value.slice.injEq] at h; exact ⟨h.1.symm, h.2.2⟩
  clear hv7
  obtain ⟨b7, o7, e7, -, t0, t1, t2, t3, t4, t5⟩ := hC7.at6 (k := bi) (by first | exact hbl | (rw [List.length_set]; exact hbl)) rfl
  obtain ⟨rfl, rfl⟩ : gb = b7 ∧ 0 = o7 := by simpa [eq_comm] using e7
  rw [Nat.zero_add, Hx.out] at t3
  clear e7 hC7 t0 t1 t2 t4 t5
  have hB := hR.blk
  unfold rlC at hB
  simp only at hB
  have v4 := Dr.cell0 (hU.cell (i := 4) rfl)
  have y3 := Dr.cell0 t3
  refine Dr.plan_q (l := [_, _, _, _, _, _, _, _, _]) rfl (fun K hK => ?_)
  iterate 9 (go_big_quiet_step (fail))
  refine wpQuiet_nil (hK _ ?_); clear hK K
  clear hB v4 y3
  refine Dr.plan_done (tl := [_]) rfl ?_
  have f0 := hR.ob.frozen (bi * 6 + 3)
  have hR' := hR.putB hbi (j := 3) (by omega) ⟨x0, x1, x2, x3 - a4, x4, false⟩ (.int .i64 (x3 - a4)) (by simp only; rw [Hx.out]; rfl)
  simp only at hR'
  have hU' := hU.other (p := ⟨gb, bi * 6 + 3, none⟩) (by simp only; omega) (.int .i64 (x3 - a4))
  have hbw' := hbw.setCell (p := ⟨gb, bi * 6 + 3, none⟩) hgB (.int .i64 (x3 - a4))
  clear hR hU hbw
  go_upto_region 17 with fail
  clear t3 f0
  generalize W4.setCell ⟨gb, bi * 6 + 3, none⟩ (.int .i64 (x3 - a4)) = W5 at *
  have hR := hR'
  have hU := hU'
  have hbw := hbw'
  clear hR' hU' hbw'
  obtain ⟨A7, q7, hv7, -, -, hC7⟩ := hR.ob.cells bag_len
  obtain ⟨rfl, rfl⟩ : A7 = some ⟨gb, 0, none⟩ ∧ d = q7 := by have h := hv7; rw [Value.slice.injEq] at h; exact ⟨h.1.symm, h.2.2⟩
  clear hv7
  obtain ⟨b7, o7, e7, -, t0, t1, t2, t3, t4, t5⟩ := hC7.at6 (k := bi) (by first | exact hbl | (rw [List.length_set]; exact hbl)) rfl
  obtain ⟨rfl, rfl⟩ : gb = b7 ∧ 0 = o7 := by simpa [eq_comm] using e7
  rw [Nat.zero_add, List.getElem_set_self] at t4
  clear e7 hC7 t0 t1 t2 t3 t5
  have f0 := hR.ob.frozen (bi * 6 + 4)
  have u3 : W5.cell? ⟨U, 3, none⟩ = _ := hU.cell (i := 3) rfl
  have hR' := hR.putB hbi (j := 4) (by omega) ⟨x0, x1, x2, x3 - a4, a3, false⟩ (.int .i64 a3) (by simp only [List.getElem_set_self]; rfl)
  simp only [List.set_set] at hR'
  have hU' := hU.other (p := ⟨gb, bi * 6 + 4, none⟩) (by simp only; omega) (.int .i64 a3)
  have hbw' := hbw.setCell (p := ⟨gb, bi * 6 + 4, none⟩) hgB (.int .i64 a3)
  clear hR hU hbw
  go_upto_region 18 with fail
  clear t4 f0 u3
  generalize W5.setCell ⟨gb, bi * 6 + 4, none⟩ (.int .i64 a3) = W6 at *
  have hR := hR'
  have hU := hU'
  have hbw := hbw'
  clear hR' hU' hbw'
  refine Dr.wp_region_plan 9 [] (.q [0, 1, 2, 3, 4, 5, 6, 7, 8] .done) (by kernel_rfl) (by kernel_rfl) ?_
  have hR' := hR.ext (ext_drew W6)
  have hU' := hU.ext (ext_drew W6)
  have hbw' := hbw.trans ((ext_drew W6).mono (by have := hbw.size; omega))
  clear hR hU hbw
  generalize World.drew W6 = W7 at *
  have hR := hR'
  have hU := hU'
  have hbw := hbw'
  clear hR' hU' hbw'
  have hB := hR.blk
  unfold rlC at hB
  simp only at hB
  have r0 := Dr.cell0 (hB.cell (i := 6) rfl)
  have r4 := Dr.cell0 (hU.cell (i := 4) rfl)
  refine Dr.plan_q (l := [_, _, _, _, _, _, _, _, _]) rfl (fun K hK => ?_)
  iterate 9 (go_big_quiet_step (fail))
  refine wpQuiet_nil (hK _ ?_); clear hK K
  clear r0 r4
  refine Dr.plan_done (tl := [_]) rfl ?_
  have c0 : W7.cell? ⟨P, 6, none⟩ = _ := hB.cell (i := 6) rfl
  have f0 := hB.free 6
  have hR' := hR.put 6 (.int .i64 (t + a4)) ⟨ws, bs.set bi ⟨x0, x1, x2, x3 - a4, a3, false⟩, o, k, g, i, t + a4, ds⟩ rfl rfl rfl rfl
  have hU' := hU.other (p := ⟨P, 6, none⟩) (by simp only; omega) (.int .i64 (t + a4))
  have hbw' := hbw.setCell (p := ⟨P, 6, none⟩) hP0 (.int .i64 (t + a4))
  clear hR hU hbw hB
  go_upto_region 19 with fail
  clear c0 f0
  generalize W7.setCell ⟨P, 6, none⟩ (.int .i64 (t + a4)) = W8 at *
  have hR := hR'
  have hU := hU'
  have hbw := hbw'
  clear hR' hU' hbw'
  go_wp2
  go_ret
  exact ⟨ret_congr (int_congr (by rw [HY.out])), hbw, fun _ => by rw [HY.out]; exact ⟨_, _, _, hR⟩⟩
end Go.Proofs.YtnjdlhhgnamigaaGreat

/- Walk: way, of the reference (kind 6). -/
namespace Go.Pu
open Go.Pl
def openR (l : Led) (a2 _a3 _a4 : Int) : Led × Int :=
  if !l.bgB a2 then (l, 2) else if (l.bg a2).opened then (l, 8) else ({ l.setBag a2 { l.bg a2 with holds := 0, opened := true } with office := l.office + (l.bg a2).holds, diffs := if (l.bg a2).holds != (l.bg a2).written || (l.bg a2).broken then l.diffs ++ [⟨a2, (l.bg a2).written - (l.bg a2).holds, (l.bg a2).broken⟩] else l.diffs }, 0)
end Go.Pu
namespace Go.Proofs.YtnjdlhhgnamigaaGreat
open Go.RowKit Go.Bs Go.Pu Go.Pl Go.Sort
set_option maxRecDepth 100000 in
set_option maxHeartbeats 8000000 in
theorem way6_any {base : Nat} {w : World} {P : Nat} {A : Option Addr} {n c : Nat} {B : Option Addr} {m d : Nat} {D : Option Addr} {q e : Nat} {l : Led} (h : RefM base w P A n c B m d D q e l) (hmon : l.mon) (hq : q ≤ 900) (a1 a2 a3 a4 a5 : Int) :
    Calls Tryz.prog 37 #[.pointer (some ⟨P, 0, none⟩), Act.val ⟨6, a1, a2, a3, a4, a5⟩] w fun r w' => r = .returned (.int .i64 (openR l a2 a3 a4).2) ∧ Below base w w' ∧ ((openR l a2 a3 a4).2 = 0 → ∃ D' q' e', RefM base w' P A n c B m d D' q' e' (openR l a2 a3 a4).1) := by
  have C0 := Lib.hid (fun W => In_any a2 0 ((m : Int) - 1) W)
  have C3 := Lib.hid (fun W => (show Calls Tryz.prog 61 #[.agg #[.int .u8 6, .int .i64 a1, .int .i64 a2, .int .i64 a3, .int .i64 a4, .int .i64 a5]] W fun r w' => r = .returned (.bool (sealB a3)) ∧ Below W.heap.size W w' from sealR_any ⟨6, a1, a2, a3, a4, a5⟩ W))
  have C4 := Lib.hid (fun W => moneyR_any a4 W)
  have C5 := Lib.hid (fun W hM => sealedR_any l A n c B m d D q e a3 (-1) W hM)
  have Hwn := Lib.hid (show decide (0 ≤ a2 ∧ a2 ≤ (m : Int) - 1) = true → 0 ≤ a2 ∧ a2 ≤ (m : Int) - 1 from fun h => of_decide_eq_true h)
  have Hmo := Lib.hid (show monB a4 = true → 0 ≤ a4 ∧ a4 ≤ 1000000000000 from fun h => of_decide_eq_true h)
  have hres : openR l a2 a3 a4 = if !l.bgB a2 then (l, 2) else if (l.bg a2).opened then (l, 8) else ({ l.setBag a2 { l.bg a2 with holds := 0, opened := true } with office := l.office + (l.bg a2).holds, diffs := if (l.bg a2).holds != (l.bg a2).written || (l.bg a2).broken then l.diffs ++ [⟨a2, (l.bg a2).written - (l.bg a2).holds, (l.bg a2).broken⟩] else l.diffs }, 0) := rfl
  rw [show l.bgB a2 = decide (0 ≤ a2 ∧ a2 ≤ (m : Int) - 1) by unfold Led.bgB; rw [h.hm]] at hres
  generalize openR l a2 a3 a4 = res at *
  generalize sealB a3 = sb at *
  generalize monB a4 = mb at *
  generalize hsd : l.sealed a3 (-1) = sd at *
  generalize decide (0 ≤ a2 ∧ a2 ≤ (m : Int) - 1) = wb at *
  clear hsd
  have Hres := Lib.hid hres
  clear hres
  unfold ledV at C5
  unfold Act.val
  have hBU : ∀ kk, B.map (·.block) = some kk → base ≤ kk ∧ kk < w.heap.size := h.ob.block_ge rfl
  have hDU : ∀ kk, (Value.slice D q e).ownBlock = some kk → kk < w.heap.size := fun kk hv => (h.od.lt hv).2
  have hP0 := h.hP
  have hPl := h.blk.lt
  have hPb : base ≤ w.heap.size := Nat.le_trans hP0 (Nat.le_of_lt hPl)
  have hbw : Below base w (w.alloc (.cells #[.int .u8 6, .int .i64 a1, .int .i64 a2, .int .i64 a3, .int .i64 a4, .int .i64 a5] 48)) := (Below.refl _ _).alloc hPb _
  have hU := Blk.new w 48 [.int .u8 6, .int .i64 a1, .int .i64 a2, .int .i64 a3, .int .i64 a4, .int .i64 a5]
  have hR := h.ext (ext_alloc w (.cells #[.int .u8 6, .int .i64 a1, .int .i64 a2, .int .i64 a3, .int .i64 a4, .int .i64 a5] 48))
  have ho := hmon.o
  have hk := hmon.k
  have hi := hmon.i
  have ht := hmon.t
  clear h
  have Hmh := Lib.hid hmon.h
  obtain ⟨ws, bs, o, k, g, i, t, ds⟩ := l
  simp only at ho hk hi ht Hres Hmh C5
  clear hmon
  have hm9 := hR.m9
  go_enter Tryz.func37, Tryz.ntmps37
  go_upto_region 1 with fail
  change Blk (w.alloc (.cells #[.int .u8 6, .int .i64 a1, .int .i64 a2, .int .i64 a3, .int .i64 a4, .int .i64 a5] 48)) _ _ _ at hU
  generalize hU0 : w.heap.size = U at *
  generalize w.alloc (.cells #[.int .u8 6, .int .i64 a1, .int .i64 a2, .int .i64 a3, .int .i64 a4, .int .i64 a5] 48) = W0 at *
  refine Dr.wp_region_plan 26 [] (.q [0, 1, 2, 3, 4, 5, 6, 7] (.e1 8 (.q [9, 10, 11, 12, 13, 14, 15] (.e1 16 (.q [17, 18, 19, 20] (.e1 21 (.q [22, 23, 24, 25] .done))))))) (by kernel_rfl) (by kernel_rfl) ?_
  replace hR := hR.ext (ext_drew W0)
  replace hU := hU.ext (ext_drew W0)
  replace hbw := hbw.trans ((ext_drew W0).mono (by have := hbw.size; omega))
  generalize World.drew W0 = V at *
  have hB := hR.blk
  unfold rlC at hB
  simp only at hB
  have r0 := Dr.cell0 (hB.cell (i := 0) rfl)
  have r1 := Dr.cell0 (hB.cell (i := 1) rfl)
  have r2 := Dr.cell0 (hB.cell (i := 2) rfl)
  have r3 := Dr.cell0 (hB.cell (i := 3) rfl)
  have r4 := Dr.cell0 (hB.cell (i := 4) rfl)
  have r5 := Dr.cell0 (hB.cell (i := 5) rfl)
  have r6 := Dr.cell0 (hB.cell (i := 6) rfl)
  have r7 := Dr.cell0 (hB.cell (i := 7) rfl)
  have v0 := Dr.cell0 (hU.cell (i := 0) rfl)
  have v1 := Dr.cell0 (hU.cell (i := 1) rfl)
  have v2 := Dr.cell0 (hU.cell (i := 2) rfl)
  have v3 := Dr.cell0 (hU.cell (i := 3) rfl)
  have v4 := Dr.cell0 (hU.cell (i := 4) rfl)
  have v5 := Dr.cell0 (hU.cell (i := 5) rfl)
  refine Dr.plan_q (l := [_, _, _, _, _, _, _, _]) rfl (fun K hK => ?_)
  iterate 8 (go_big_quiet_step (fail))
  refine wpQuiet_nil (hK _ ?_); clear hK K
  refine Dr.plan_e rfl (by rfl) (fun K hK => ?_)
  go_wp2_with fail
  refine (C0.out _).mono ?_; rintro r w9 ⟨rfl, rfl⟩
  go_wp2
  refine hK _ _ (Dr.Bel.refl _ _) ?_; clear hK K
  clear C0
  cases wb
  · skip
    have HY := Lib.hid (show res = (⟨ws, bs, o, k, g, i, t, ds⟩, 2) by rw [Hres.out]; simp)
    refine Dr.plan_q (l := [_, _, _, _, _, _, _]) rfl (fun K hK => ?_)
    iterate 7 (go_big_quiet_step (fail))
    refine wpQuiet_nil (hK _ ?_); clear hK K
    with_reducible refine Dr.plan_e_skip (by with_unfolding_all exact rfl) (by with_unfolding_all rfl) ?_
    go_frame
    with_reducible refine Dr.plan_q (l := [_, _, _, _]) (by with_unfolding_all exact rfl) (fun K hK => ?_)
    iterate 4 (go_big_quiet_step (fail))
    refine wpQuiet_nil (hK _ ?_); clear hK K
    with_reducible refine Dr.plan_e_skip (by with_unfolding_all exact rfl) (by with_unfolding_all rfl) ?_
    go_frame
    with_reducible refine Dr.plan_q (l := [_, _, _, _]) (by with_unfolding_all exact rfl) (fun K hK => ?_)
    iterate 4 (go_big_quiet_step (fail))
    refine wpQuiet_nil (hK _ ?_); clear hK K
    refine Dr.plan_end rfl ?_
    go_wp2
    go_ret
    exact ⟨ret_congr (int_congr (by rw [HY.out])), hbw, fun hz => by rw [HY.out] at hz; cases hz⟩
  refine Dr.plan_q (l := [_, _, _, _, _, _, _]) rfl (fun K hK => ?_)
  iterate 7 (go_big_quiet_step (fail))
  refine wpQuiet_nil (hK _ ?_); clear hK K
  clear r0 r1 r2 r3 r4 r5 r6 r7 v0 v1 v2 v3 v4 v5 hB
  with_reducible refine Dr.plan_e_skip (by with_unfolding_all exact rfl) (by with_unfolding_all rfl) ?_
  go_frame
  with_reducible refine Dr.plan_q (l := [_, _, _, _]) (by with_unfolding_all exact rfl) (fun K hK => ?_)
  iterate 4 (go_big_quiet_step (fail))
  refine wpQuiet_nil (hK _ ?_); clear hK K
  with_reducible refine Dr.plan_e_skip (by with_unfolding_all exact rfl) (by with_unfolding_all rfl) ?_
  go_frame
  with_reducible refine Dr.plan_q (l := [_, _, _, _]) (by with_unfolding_all exact rfl) (fun K hK => ?_)
  iterate 4 (go_big_quiet_step (fail))
  refine wpQuiet_nil (hK _ ?_); clear hK K
  refine Dr.plan_end rfl ?_
  have hw := Hwn.out (by first | rfl | trivial)
  have hr := Hres.out
  simp only [Bool.not_true, Bool.or_self, Bool.false_eq_true, if_false] at hr
  obtain ⟨bi, rfl⟩ : ∃ bi : Nat, a2 = bi := ⟨a2.toNat, by omega⟩
  have hbi : bi < m := by omega
  have hbi' : (bi : Int) < (m : Int) := by omega
  have hbl : bi < bs.length := by have := hR.hm; simp only at this; omega
  obtain ⟨gb, cb, hvw⟩ := hR.ob.rowOf (by show 0 < bs.length; omega)
  obtain rfl : B = some ⟨gb, 0, none⟩ := by rw [Value.slice.injEq] at hvw; exact hvw.1
  have hgU := (hBU gb rfl).2
  have hgB := (hBU gb rfl).1
  clear hvw hw Hwn Hmo hBU
  have hxb := Hmh.out _ (List.getElem_mem hbl)
  have hbg : Led.bg ⟨ws, bs, o, k, g, i, t, ds⟩ (bi : Int) = bs[bi] := by show bs.getD (bi : Int).toNat default = _; simp [hbl]
  rw [hbg] at hr
  obtain ⟨x, hx⟩ : ∃ x, bs[bi] = x := ⟨_, rfl⟩
  rw [hx] at hr hxb
  have Hx := Lib.hid hx
  have Hr := Lib.hid hr
  clear hr Hres hx hbg Hmh
  obtain ⟨x0, x1, x2, x3, x4, x5⟩ := x
  simp only at hxb Hr
  go_upto_region 3 with fail
  refine Dr.wp_region_plan 8 [] (.q [0, 1, 2, 3, 4, 5, 6, 7] .done) (by kernel_rfl) (by kernel_rfl) ?_
  have hR' := hR.ext (ext_drew V)
  have hU' := hU.ext (ext_drew V)
  have hbw' := hbw.trans ((ext_drew V).mono (by have := hbw.size; omega))
  clear hR hU hbw
  generalize World.drew V = W2 at *
  have hR := hR'
  have hU := hU'
  have hbw := hbw'
  clear hR' hU' hbw'
  have hB := hR.blk
  unfold rlC at hB
  simp only at hB
  have p1 := Dr.cell0 (hB.cell (i := 1) rfl)
  have v2 := Dr.cell0 (hU.cell (i := 2) rfl)
  refine Dr.plan_q (l := [_, _, _, _, _, _, _, _]) rfl (fun K hK => ?_)
  iterate 8 (go_big_quiet_step (fail))
  refine wpQuiet_nil (hK _ ?_); clear hK K
  refine Dr.plan_end rfl ?_
  clear hB p1 v2
  obtain ⟨A7, q7, hv7, -, -, hC7⟩ := hR.ob.cells bag_len
  obtain ⟨rfl, rfl⟩ : A7 = some ⟨gb, 0, none⟩ ∧ d = q7 := by have h := hv7; rw [Value.slice.injEq] at h; exact ⟨h.1.symm, h.2.2⟩
  clear hv7
  obtain ⟨b7, o7, e7, -, t0, t1, t2, t3, t4, t5⟩ := hC7.at6 (k := bi) (by first | exact hbl | (rw [List.length_set]; exact hbl)) rfl
  obtain ⟨rfl, rfl⟩ : gb = b7 ∧ 0 = o7 := by simpa [eq_comm] using e7
  rw [Nat.zero_add, Hx.out] at t5
  clear e7 hC7 t0 t1 t2 t3 t4
  cases x5
  rotate_left
  · have HY := Lib.hid (show res = (⟨ws, bs, o, k, g, i, t, ds⟩, 8) by rw [Hr.out]; simp)
    go_wp2
    go_ret
    exact ⟨ret_congr (int_congr (by rw [HY.out])), hbw, fun hz => by rw [HY.out] at hz; cases hz⟩
  have hr := Hr.out
  simp only [Bool.false_eq_true, if_false] at hr
  have Hr2 := Lib.hid hr
  clear hr Hr
  have u0 : W2.cell? ⟨U, 0, none⟩ = _ := hU.cell (i := 0) rfl
  have HY := Lib.hid (show res = (⟨ws, bs.set bi ⟨x0, x1, x2, 0, x4, true⟩, o + x3, k, g, i, t, (if x3 != x2 || x4 != x1 then ds ++ [⟨(bi : Int), x2 - x3, x4 != x1⟩] else ds)⟩, 0) by rw [Hr2.out]; simp [Led.setBag, Bag.broken])
  clear Hr2
  go_upto_region 7 with fail
  clear u0 t5
  go_cut [65] (fun z W => z = .bool (x3 != x2 || x4 != x1) ∧ RefM base W P A n c (some ⟨gb, 0, none⟩) m d D q e ⟨ws, bs, o, k, g, i, t, ds⟩ ∧ Blk W U 48 [.int .u8 6, .int .i64 a1, .int .i64 (bi : Int), .int .i64 a3, .int .i64 a4, .int .i64 a5] ∧ Below base w W)
  case first =>
    refine Dr.wp_region_plan 20 [] (.q [0, 1, 2, 3, 4, 5, 6, 7, 8, 9, 10, 11, 12, 13, 14, 15, 16, 17, 18, 19] .done) (by kernel_rfl) (by kernel_rfl) ?_
    have hR' := hR.ext (ext_drew W2)
    have hU' := hU.ext (ext_drew W2)
    have hbw' := hbw.trans ((ext_drew W2).mono (by have := hbw.size; omega))
    clear hR hU hbw
    generalize World.drew W2 = W3 at *
    have hR := hR'
    have hU := hU'
    have hbw := hbw'
    clear hR' hU' hbw'
    obtain ⟨A7, q7, hv7, -, -, hC7⟩ := hR.ob.cells bag_len
    obtain ⟨rfl, rfl⟩ : A7 = some ⟨gb, 0, none⟩ ∧ d = q7 := by have h := hv7; rw [Value.slice.injEq] at h; exact ⟨h.1.symm, h.2.2⟩
    clear hv7
    obtain ⟨b7, o7, e7, -, t0, t1, t2, t3, t4, t5⟩ := hC7.at6 (k := bi) (by first | exact hbl | (rw [List.length_set]; exact hbl)) rfl
    obtain ⟨rfl, rfl⟩ : gb = b7 ∧ 0 = o7 := by simpa [eq_comm] using e7
    rw [Nat.zero_add, Hx.out] at t1
    rw [Nat.zero_add, Hx.out] at t2
    rw [Nat.zero_add, Hx.out] at t3
    rw [Nat.zero_add, Hx.out] at t4
    clear e7 hC7 t0 t5
    have hB := hR.blk
    unfold rlC at hB
    simp only at hB
    have y1 := Dr.cell0 t1
    have y2 := Dr.cell0 t2
    have y3 := Dr.cell0 t3
    have y4 := Dr.cell0 t4
    clear t1 t2 t3 t4 hB
    by_cases h32 : x3 = x2
    · have e1 : (x3 == x2) = true := by simpa using h32
      have e2 : (x3 != x2) = false := by simpa using h32
      have H32 := Lib.hid h32
      clear h32
      by_cases h41 : x4 = x1
      · have e3 : (x4 == x1) = true := by simpa using h41
        have e4 : (x4 != x1) = false := by simpa using h41
        have H41 := Lib.hid h41
        clear h41
        refine Dr.plan_q (l := [_, _, _, _, _, _, _, _, _, _, _, _, _, _, _, _, _, _, _, _]) rfl (fun K hK => ?_)
        iterate 20 (go_big_quiet_step (fail))
        refine wpQuiet_nil (hK _ ?_); clear hK K
        refine Dr.plan_end rfl ?_
        go_wp2
        go_meet
        case rel => exact ⟨congrArg Value.bool (by simp [H32.out, H41.out]), hR, hU, hbw⟩
      · have e3 : (x4 == x1) = false := by simpa using h41
        have e4 : (x4 != x1) = true := by simpa using h41
        have H41 := Lib.hid h41
        clear h41
        refine Dr.plan_q (l := [_, _, _, _, _, _, _, _, _, _, _, _, _, _, _, _, _, _, _, _]) rfl (fun K hK => ?_)
        iterate 20 (go_big_quiet_step (fail))
        refine wpQuiet_nil (hK _ ?_); clear hK K
        refine Dr.plan_end rfl ?_
        go_wp2
        go_meet
        case rel => exact ⟨congrArg Value.bool (by simp [H41.out]), hR, hU, hbw⟩
    · have e1 : (x3 == x2) = false := by simpa using h32
      have e2 : (x3 != x2) = true := by simpa using h32
      have H32 := Lib.hid h32
      clear h32
      refine Dr.plan_q (l := [_, _, _, _, _, _, _, _, _, _, _, _, _, _, _, _, _, _, _, _]) rfl (fun K hK => ?_)
      iterate 20 (go_big_quiet_step (fail))
      refine wpQuiet_nil (hK _ ?_); clear hK K
      refine Dr.plan_end rfl ?_
      go_wp2
      go_meet
      case rel => exact ⟨congrArg Value.bool (by simp [H32.out]), hR, hU, hbw⟩
  case rest =>
  obtain ⟨rfl, hR, hU, hbw⟩ := hcut
  generalize wc = W3 at *
  go_upto_if 65 with fail
  go_cut [95] (fun _ W => (∃ D' q' e', RefM base W P A n c (some ⟨gb, 0, none⟩) m d D' q' e' ⟨ws, bs, o, k, g, i, t, (if x3 != x2 || x4 != x1 then ds ++ [⟨(bi : Int), x2 - x3, x4 != x1⟩] else ds)⟩) ∧ Blk W U 48 [.int .u8 6, .int .i64 a1, .int .i64 (bi : Int), .int .i64 a3, .int .i64 a4, .int .i64 a5] ∧ Below base w W)
  case first =>
    by_cases hc : (x3 != x2 || x4 != x1) = true
    rotate_left
    · have hf : (x3 != x2 || x4 != x1) = false := by simpa using hc
      rw [hf]
      go_wp2
      go_meet
      case rel => exact ⟨⟨_, _, _, by first | exact hR | (simp only [hf, Bool.false_eq_true, if_false]; exact hR)⟩, hU, hbw⟩
    rw [hc]
    go_upto_region 8 with fail
    by_cases h41 : x4 = x1
    · have e3 : (x4 == x1) = true := by simpa using h41
      have e4 : (x4 != x1) = false := by simpa using h41
      have H41 := Lib.hid h41
      have Hc := Lib.hid hc
      clear h41 hc
      generalize hgv : (Value.slice D q e).ownBlock.getD W3.heap.size = gv
      have n1 : P ≠ gv := by
        have hl := hR.blk.lt
        intro e1
        cases hv : (Value.slice D q e).ownBlock with
        | none => rw [hv] at hgv; simp at hgv; omega
        | some kk => rw [hv] at hgv; simp at hgv; exact hR.pd (by rw [hv, hgv, e1])
      have n2 : U ≠ gv := by
        have hl := hU.lt
        intro e1
        cases hv : (Value.slice D q e).ownBlock with
        | none => rw [hv] at hgv; simp at hgv; omega
        | some kk => rw [hv] at hgv; simp at hgv; have := hDU kk hv; omega
      have n3 : gb ≠ gv := by
        have hl := (hR.ob.block_ge rfl gb rfl).2
        intro e1
        cases hv : (Value.slice D q e).ownBlock with
        | none => rw [hv] at hgv; simp at hgv; omega
        | some kk => rw [hv] at hgv; simp at hgv; exact hR.bd gb rfl (by rw [hv, hgv, e1])
      have hvk : ∀ kk, (Value.slice D q e).ownBlock = some kk → kk = gv := fun kk hv => by rw [hv] at hgv; simpa using hgv
      clear hgv
      refine Dr.wp_region_plan 30 [gv] (.q [0, 1, 2, 3, 4, 5, 6, 7, 8, 9, 10, 11, 12, 13, 14, 15, 16, 17, 18, 19, 20, 21, 22, 23, 24, 25] (.e1 26 (.e1 27 (.q [28, 29] .done)))) (by kernel_rfl) (by kernel_rfl) ?_
      replace hR := hR.ext (ext_drew W3)
      replace hU := hU.ext (ext_drew W3)
      replace hbw := hbw.trans ((ext_drew W3).mono (by have := hbw.size; omega))
      generalize World.drew W3 = W7 at *
      obtain ⟨A7, q7, hv7, -, -, hC7⟩ := hR.ob.cells bag_len
      obtain ⟨rfl, rfl⟩ : A7 = some ⟨gb, 0, none⟩ ∧ d = q7 := by have h := hv7; rw [Value.slice.injEq] at h; exact ⟨h.1.symm, h.2.2⟩
      clear hv7
      obtain ⟨b7, o7, e7, -, t0, t1, t2, t3, t4, t5⟩ := hC7.at6 (k := bi) (by first | exact hbl | (rw [List.length_set]; exact hbl)) rfl
      obtain ⟨rfl, rfl⟩ : gb = b7 ∧ 0 = o7 := by simpa [eq_comm] using e7
      rw [Nat.zero_add, Hx.out] at t1
      rw [Nat.zero_add, Hx.out] at t2
      rw [Nat.zero_add, Hx.out] at t3
      rw [Nat.zero_add, Hx.out] at t4
      clear e7 hC7 t0 t5
      have hB := hR.blk
      unfold rlC at hB
      simp only at hB
      have r7 := Dr.cls_cell (M := [gv]) (hB.cell (i := 7) rfl) (by simp; omega)
      have v2 := Dr.cls_cell (M := [gv]) (hU.cell (i := 2) rfl) (by simp; omega)
      have y1 := Dr.cls_cell (M := [gv]) t1 (by simp; omega)
      have y2 := Dr.cls_cell (M := [gv]) t2 (by simp; omega)
      have y3 := Dr.cls_cell (M := [gv]) t3 (by simp; omega)
      have y4 := Dr.cls_cell (M := [gv]) t4 (by simp; omega)
      refine Dr.plan_q (l := [_, _, _, _, _, _, _, _, _, _, _, _, _, _, _, _, _, _, _, _, _, _, _, _, _, _]) rfl (fun K hK => ?_)
      iterate 26 (go_big_quiet_step (fail))
      refine wpQuiet_nil (hK _ ?_); clear hK K
      clear r7 v2 y1 y2 y3 y4 t1 t2 t3 t4
      refine Dr.plan_e rfl (by rfl) (fun K hK => ?_)
      go_wp2_with fail
      refine hK _ _ (.of (ext_alloc _ _)) ?_; clear hK K
      have nw := Blk.new W7 84 [.int .i64 (bi : Int), .int .i64 (x2 - x3), .bool false]
      have hal := ext_alloc W7 (.cells #[.int .i64 (bi : Int), .int .i64 (x2 - x3), .bool false] 84)
      have hsz := hbw.size
      replace hR := hR.ext hal
      replace hU := hU.ext hal
      replace hbw := hbw.trans (hal.mono (by omega))
      change Blk (W7.alloc (.cells #[.int .i64 (bi : Int), .int .i64 (x2 - x3), .bool false] 84)) _ _ _ at nw
      clear hB hal
      have hmc : ds.length = q := hR.hq
      generalize W7.alloc (.cells #[.int .i64 (bi : Int), .int .i64 (x2 - x3), .bool false] 84) = W8 at *
      generalize W7.heap.size = N1 at *
      have hbs : base ≤ W8.heap.size := by have := hbw.size; omega
      refine Dr.plan_e rfl (by rfl) (fun K hK => ?_)
      refine wp_app1 Dif.enc 24 84 3 24 et24 (by decide) (by decide) dif_len dif_one _ _ rfl base _ ds rfl hR.od N1 rfl ⟨(bi : Int), x2 - x3, false⟩ (fun jj u hu => nw.cell hu) (by omega) hbs ?_
      intro g2 c2 X2 ho2 hbl2 hgr2 hat2
      refine hK _ _ (bel_grown hgr2 hvk (by simp)) ?_; clear hK K
      go_frame
      rw [hmc] at ho2 ⊢
      have hfin := hR.appD ⟨(bi : Int), x2 - x3, false⟩ ho2 hgr2 hat2 (by omega)
      have hPX := kept_blk hR.blk hgr2 hR.pd
      have hUX := kept_blk hU hgr2 (fun e2 => n2 (hvk U e2))
      have hPU : P ≠ U := by omega
      replace hbw := hbw.trans hbl2
      clear hR nw hgr2 hat2 ho2 hbl2 hU
      unfold rlC at hPX
      simp only at hPX
      refine Dr.plan_q (l := [_, _]) rfl (fun K hK => ?_)
      iterate 2 (go_big_quiet_step (fail))
      refine wpQuiet_nil (hK _ ?_); clear hK K
      have z1 : X2.cell? ⟨P, 7, none⟩ = _ := hPX.cell (i := 7) rfl
      have f1 := hPX.free 7
      refine Dr.plan_done (tl := [_]) rfl ?_
      go_wp2
      go_meet
      case rel => exact ⟨⟨_, _, _, by first | exact hfin | (rw [if_pos Hc.out, e4]; exact hfin)⟩, hUX.other (p := ⟨P, 7, none⟩) (by simp only; omega) _, hbw.setCell hP0 _⟩
    · have e3 : (x4 == x1) = false := by simpa using h41
      have e4 : (x4 != x1) = true := by simpa using h41
      have H41 := Lib.hid h41
      have Hc := Lib.hid hc
      clear h41 hc
      generalize hgv : (Value.slice D q e).ownBlock.getD W3.heap.size = gv
      have n1 : P ≠ gv := by
        have hl := hR.blk.lt
        intro e1
        cases hv : (Value.slice D q e).ownBlock with
        | none => rw [hv] at hgv; simp at hgv; omega
        | some kk => rw [hv] at hgv; simp at hgv; exact hR.pd (by rw [hv, hgv, e1])
      have n2 : U ≠ gv := by
        have hl := hU.lt
        intro e1
        cases hv : (Value.slice D q e).ownBlock with
        | none => rw [hv] at hgv; simp at hgv; omega
        | some kk => rw [hv] at hgv; simp at hgv; have := hDU kk hv; omega
      have n3 : gb ≠ gv := by
        have hl := (hR.ob.block_ge rfl gb rfl).2
        intro e1
        cases hv : (Value.slice D q e).ownBlock with
        | none => rw [hv] at hgv; simp at hgv; omega
        | some kk => rw [hv] at hgv; simp at hgv; exact hR.bd gb rfl (by rw [hv, hgv, e1])
      have hvk : ∀ kk, (Value.slice D q e).ownBlock = some kk → kk = gv := fun kk hv => by rw [hv] at hgv; simpa using hgv
      clear hgv
      refine Dr.wp_region_plan 30 [gv] (.q [0, 1, 2, 3, 4, 5, 6, 7, 8, 9, 10, 11, 12, 13, 14, 15, 16, 17, 18, 19, 20, 21, 22, 23, 24, 25] (.e1 26 (.e1 27 (.q [28, 29] .done)))) (by kernel_rfl) (by kernel_rfl) ?_
      replace hR := hR.ext (ext_drew W3)
      replace hU := hU.ext (ext_drew W3)
      replace hbw := hbw.trans ((ext_drew W3).mono (by have := hbw.size; omega))
      generalize World.drew W3 = W7 at *
      obtain ⟨A7, q7, hv7, -, -, hC7⟩ := hR.ob.cells bag_len
      obtain ⟨rfl, rfl⟩ : A7 = some ⟨gb, 0, none⟩ ∧ d = q7 := by have h := hv7; rw [Value.slice.injEq] at h; exact ⟨h.1.symm, h.2.2⟩
      clear hv7
      obtain ⟨b7, o7, e7, -, t0, t1, t2, t3, t4, t5⟩ := hC7.at6 (k := bi) (by first | exact hbl | (rw [List.length_set]; exact hbl)) rfl
      obtain ⟨rfl, rfl⟩ : gb = b7 ∧ 0 = o7 := by simpa [eq_comm] using e7
      rw [Nat.zero_add, Hx.out] at t1
      rw [Nat.zero_add, Hx.out] at t2
      rw [Nat.zero_add, Hx.out] at t3
      rw [Nat.zero_add, Hx.out] at t4
      clear e7 hC7 t0 t5
      have hB := hR.blk
      unfold rlC at hB
      simp only at hB
      have r7 := Dr.cls_cell (M := [gv]) (hB.cell (i := 7) rfl) (by simp; omega)
      have v2 := Dr.cls_cell (M := [gv]) (hU.cell (i := 2) rfl) (by simp; omega)
      have y1 := Dr.cls_cell (M := [gv]) t1 (by simp; omega)
      have y2 := Dr.cls_cell (M := [gv]) t2 (by simp; omega)
      have y3 := Dr.cls_cell (M := [gv]) t3 (by simp; omega)
      have y4 := Dr.cls_cell (M := [gv]) t4 (by simp; omega)
      refine Dr.plan_q (l := [_, _, _, _, _, _, _, _, _, _, _, _, _, _, _, _, _, _, _, _, _, _, _, _, _, _]) rfl (fun K hK => ?_)
      iterate 26 (go_big_quiet_step (fail))
      refine wpQuiet_nil (hK _ ?_); clear hK K
      clear r7 v2 y1 y2 y3 y4 t1 t2 t3 t4
      refine Dr.plan_e rfl (by rfl) (fun K hK => ?_)
      go_wp2_with fail
      refine hK _ _ (.of (ext_alloc _ _)) ?_; clear hK K
      have nw := Blk.new W7 84 [.int .i64 (bi : Int), .int .i64 (x2 - x3), .bool true]
      have hal := ext_alloc W7 (.cells #[.int .i64 (bi : Int), .int .i64 (x2 - x3), .bool true] 84)
      have hsz := hbw.size
      replace hR := hR.ext hal
      replace hU := hU.ext hal
      replace hbw := hbw.trans (hal.mono (by omega))
      change Blk (W7.alloc (.cells #[.int .i64 (bi : Int), .int .i64 (x2 - x3), .bool true] 84)) _ _ _ at nw
      clear hB hal
      have hmc : ds.length = q := hR.hq
      generalize W7.alloc (.cells #[.int .i64 (bi : Int), .int .i64 (x2 - x3), .bool true] 84) = W8 at *
      generalize W7.heap.size = N1 at *
      have hbs : base ≤ W8.heap.size := by have := hbw.size; omega
      refine Dr.plan_e rfl (by rfl) (fun K hK => ?_)
      refine wp_app1 Dif.enc 24 84 3 24 et24 (by decide) (by decide) dif_len dif_one _ _ rfl base _ ds rfl hR.od N1 rfl ⟨(bi : Int), x2 - x3, true⟩ (fun jj u hu => nw.cell hu) (by omega) hbs ?_
      intro g2 c2 X2 ho2 hbl2 hgr2 hat2
      refine hK _ _ (bel_grown hgr2 hvk (by simp)) ?_; clear hK K
      go_frame
      rw [hmc] at ho2 ⊢
      have hfin := hR.appD ⟨(bi : Int), x2 - x3, true⟩ ho2 hgr2 hat2 (by omega)
      have hPX := kept_blk hR.blk hgr2 hR.pd
      have hUX := kept_blk hU hgr2 (fun e2 => n2 (hvk U e2))
      have hPU : P ≠ U := by omega
      replace hbw := hbw.trans hbl2
      clear hR nw hgr2 hat2 ho2 hbl2 hU
      unfold rlC at hPX
      simp only at hPX
      refine Dr.plan_q (l := [_, _]) rfl (fun K hK => ?_)
      iterate 2 (go_big_quiet_step (fail))
      refine wpQuiet_nil (hK _ ?_); clear hK K
      have z1 : X2.cell? ⟨P, 7, none⟩ = _ := hPX.cell (i := 7) rfl
      have f1 := hPX.free 7
      refine Dr.plan_done (tl := [_]) rfl ?_
      go_wp2
      go_meet
      case rel => exact ⟨⟨_, _, _, by first | exact hfin | (rw [if_pos Hc.out, e4]; exact hfin)⟩, hUX.other (p := ⟨P, 7, none⟩) (by simp only; omega) _, hbw.setCell hP0 _⟩
  case rest =>
  obtain ⟨⟨D2, q2, e2, hR⟩, hU, hbw⟩ := hcut
  generalize wc = W4 at *
  generalize (if x3 != x2 || x4 != x1 then ds ++ [⟨(bi : Int), x2 - x3, x4 != x1⟩] else ds) = ds2 at *
  go_upto_region 9 with fail
  refine Dr.wp_region_plan 11 [] (.q [0, 1, 2, 3, 4, 5, 6, 7, 8, 9, 10] .done) (by kernel_rfl) (by kernel_rfl) ?_
  have hR' := hR.ext (ext_drew W4)
  have hU' := hU.ext (ext_drew W4)
  have hbw' := hbw.trans ((ext_drew W4).mono (by have := hbw.size; omega))
  clear hR hU hbw
  generalize World.drew W4 = W5 at *
  have hR := hR'
  have hU := hU'
  have hbw := hbw'
  clear hR' hU' hbw'
  obtain ⟨A7, q7, hv7, -, -, hC7⟩ := hR.ob.cells bag_len
  obtain ⟨rfl, rfl⟩ : A7 = some ⟨gb, 0, none⟩ ∧ d = q7 := by have h := hv7; rw [Value.slice.injEq] at h; exact ⟨h.1.symm, h.2.2⟩
  clear hv7
  obtain ⟨b7, o7, e7, -, t0, t1, t2, t3, t4, t5⟩ := hC7.at6 (k := bi) (by first | exact hbl | (rw [List.length_set]; exact hbl)) rfl
  obtain ⟨rfl, rfl⟩ : gb = b7 ∧ 0 = o7 := by simpa [eq_comm] using e7
  rw [Nat.zero_add, Hx.out] at t3
  clear e7 hC7 t0 t1 t2 t4 t5
  have hB := hR.blk
  unfold rlC at hB
  simp only at hB
  have p2 := Dr.cell0 (hB.cell (i := 2) rfl)
  have y3 := Dr.cell0 t3
  refine Dr.plan_q (l := [_, _, _, _, _, _, _, _, _, _, _]) rfl (fun K hK => ?_)
  iterate 11 (go_big_quiet_step (fail))
  refine wpQuiet_nil (hK _ ?_); clear hK K
  clear p2 y3 t3
  refine Dr.plan_done (tl := [_]) rfl ?_
  have c0 : W5.cell? ⟨P, 2, none⟩ = _ := hB.cell (i := 2) rfl
  have f0 := hB.free 2
  have hR' := hR.put 2 (.int .i64 (o + x3)) ⟨ws, bs, o + x3, k, g, i, t, ds2⟩ rfl rfl rfl rfl
  have hbw' := hbw.setCell (p := ⟨P, 2, none⟩) hP0 (.int .i64 (o + x3))
  clear hR hU hbw hB
  go_upto_region 10 with fail
  clear c0 f0
  generalize W5.setCell ⟨P, 2, none⟩ (.int .i64 (o + x3)) = W6 at *
  have hR := hR'
  have hbw := hbw'
  clear hR' hbw'
  obtain ⟨A7, q7, hv7, -, -, hC7⟩ := hR.ob.cells bag_len
  obtain ⟨rfl, rfl⟩ : A7 = some ⟨gb, 0, none⟩ ∧ d = q7 := by have h := hv7; rw [Value.slice.injEq] at h; exact ⟨h.1.symm, h.2.2⟩
  clear hv7
  obtain ⟨b7, o7, e7, -, t0, t1, t2, t3, t4, t5⟩ := hC7.at6 (k := bi) (by first | exact hbl | (rw [List.length_set]; exact hbl)) rfl
  obtain ⟨rfl, rfl⟩ : gb = b7 ∧ 0 = o7 := by simpa [eq_comm] using e7
  rw [Nat.zero_add, Hx.out] at t3
  rw [Nat.zero_add, Hx.out] at t5
  clear e7 hC7 t0 t1 t2 t4
  have f3 := hR.ob.frozen (bi * 6 + 3)
  have f5 := hR.ob.frozen (bi * 6 + 5)
  have hR1 := hR.putB hbi (j := 3) (by omega) ⟨x0, x1, x2, 0, x4, false⟩ (.int .i64 0) (by simp only; rw [Hx.out]; rfl)
  simp only at hR1
  have hR2 := hR1.putB hbi (j := 5) (by omega) ⟨x0, x1, x2, 0, x4, true⟩ (.bool true) (by simp only [List.getElem_set_self]; rfl)
  simp only [List.set_set] at hR2
  have hbw2 := (hbw.setCell (p := ⟨gb, bi * 6 + 3, none⟩) hgB (.int .i64 0)).setCell (p := ⟨gb, bi * 6 + 5, none⟩) hgB (.bool true)
  clear hR hR1 hbw
  go_wp2
  go_ret
  exact ⟨ret_congr (int_congr (by rw [HY.out])), hbw2, fun _ => by rw [HY.out]; exact ⟨_, _, _, hR2⟩⟩
end Go.Proofs.YtnjdlhhgnamigaaGreat

/- Walk: Copy, of the reference. -/
namespace Go.Proofs.YtnjdlhhgnamigaaGreat
open Go.RowKit Go.Bs Go.Pu Go.Pl Go.Sort
/-- a ledger whose rows are the call's own -/
structure RefO (base : Nat) (w : World) (A : Option Addr) (n c : Nat) (B : Option Addr) (m d : Nat) (D : Option Addr) (q e : Nat) (l : Led) : Prop where
  hn : l.windows.length = n
  hm : l.bags.length = m
  hq : l.diffs.length = q
  n9 : n ≤ 1000
  m9 : m ≤ 1000
  q9 : q ≤ 1000
  ow : OwnL w base 3 1 encI (.slice A n c) l.windows
  ob : OwnL w base 83 6 Bag.enc (.slice B m d) l.bags
  od : OwnL w base 84 3 Dif.enc (.slice D q e) l.diffs
  wb : ∀ k, (Value.slice A n c).ownBlock = some k → (Value.slice B m d).ownBlock ≠ some k
  wd : ∀ k, (Value.slice A n c).ownBlock = some k → (Value.slice D q e).ownBlock ≠ some k
  bd : ∀ k, (Value.slice B m d).ownBlock = some k → (Value.slice D q e).ownBlock ≠ some k
theorem below_grown {w w' : World} (h : w.grownBy w' none) : Below w.heap.size w w' := ⟨h.os, h.tape, h.output, h.size, fun k hk => h.block k hk (by simp)⟩
theorem RefO.box {base : Nat} {w w' : World} {A : Option Addr} {n c : Nat} {B : Option Addr} {m d : Nat} {D : Option Addr} {q e : Nat} {l : Led} {P : Nat} (h : RefO base w A n c B m d D q e l) (hb : Below w.heap.size w w') (hP : w.heap.size ≤ P) (hbs : base ≤ w.heap.size) (hB : Blk w' P 26 (rlC (.slice A n c) (.slice B m d) (.slice D q e) l)) : RefM base w' P A n c B m d D q e l :=
  ⟨hB, h.hn, h.hm, h.hq, h.n9, h.m9, h.q9, h.ow.ext hb, h.ob.ext hb, h.od.ext hb, fun e => by have := (h.ow.lt e).2; omega, fun e => by have := (h.ob.lt e).2; omega, fun e => by have := (h.od.lt e).2; omega, h.wb, h.wd, h.bd, by omega⟩
set_option maxRecDepth 100000 in
set_option maxHeartbeats 4000000 in
theorem Copy_any (l : Led) (A : Option Addr) (n c : Nat) (B : Option Addr) (m d : Nat) (D : Option Addr) (q e : Nat) (w : World) (hL : LedM w l A n B m D q) :
    Calls Tryz.prog 34 #[ledV A n c B m d l.office l.bank l.begun l.inn l.out D q e] w fun r w' => ∃ A' c' B' d' D' e', r = .returned (ledV A' n c' B' m d' l.office l.bank l.begun l.inn l.out D' q e') ∧ RefO w.heap.size w' A' n c' B' m d' D' q e' l ∧ Below w.heap.size w w' := by
  have hb0 : Below w.heap.size w (((w.alloc (.cells #[.slice A n c, .slice B m d, .int .i64 l.office, .int .i64 l.bank, .int .i64 l.begun, .int .i64 l.inn, .int .i64 l.out, .slice D q e] 26)).alloc (.cells #[.slice none 0 0, .slice none 0 0, .int .i64 0, .int .i64 0, .int .i64 0, .int .i64 0, .int .i64 0, .slice none 0 0] 26)).alloc (.cells #[.slice A n c, .slice B m d, .int .i64 l.office, .int .i64 l.bank, .int .i64 l.begun, .int .i64 l.inn, .int .i64 l.out, .slice D q e] 26)) := ((((Below.refl _ _).alloc (Nat.le_refl _) _).alloc (by simp) _).alloc (by simp; omega) _)
  have hX := ((Blk.new w 26 [.slice A n c, .slice B m d, .int .i64 l.office, .int .i64 l.bank, .int .i64 l.begun, .int .i64 l.inn, .int .i64 l.out, .slice D q e]).alloc (.cells #[.slice none 0 0, .slice none 0 0, .int .i64 0, .int .i64 0, .int .i64 0, .int .i64 0, .int .i64 0, .slice none 0 0] 26)).alloc (.cells #[.slice A n c, .slice B m d, .int .i64 l.office, .int .i64 l.bank, .int .i64 l.begun, .int .i64 l.inn, .int .i64 l.out, .slice D q e] 26)
  have hR := (Blk.new (w.alloc (.cells #[.slice A n c, .slice B m d, .int .i64 l.office, .int .i64 l.bank, .int .i64 l.begun, .int .i64 l.inn, .int .i64 l.out, .slice D q e] 26)) 26 [.slice none 0 0, .slice none 0 0, .int .i64 0, .int .i64 0, .int .i64 0, .int .i64 0, .int .i64 0, .slice none 0 0]).alloc (.cells #[.slice A n c, .slice B m d, .int .i64 l.office, .int .i64 l.bank, .int .i64 l.begun, .int .i64 l.inn, .int .i64 l.out, .slice D q e] 26)
  have hT := Blk.new ((w.alloc (.cells #[.slice A n c, .slice B m d, .int .i64 l.office, .int .i64 l.bank, .int .i64 l.begun, .int .i64 l.inn, .int .i64 l.out, .slice D q e] 26)).alloc (.cells #[.slice none 0 0, .slice none 0 0, .int .i64 0, .int .i64 0, .int .i64 0, .int .i64 0, .int .i64 0, .slice none 0 0] 26)) 26 [.slice A n c, .slice B m d, .int .i64 l.office, .int .i64 l.bank, .int .i64 l.begun, .int .i64 l.inn, .int .i64 l.out, .slice D q e]
  have hsz : (((w.alloc (.cells #[.slice A n c, .slice B m d, .int .i64 l.office, .int .i64 l.bank, .int .i64 l.begun, .int .i64 l.inn, .int .i64 l.out, .slice D q e] 26)).alloc (.cells #[.slice none 0 0, .slice none 0 0, .int .i64 0, .int .i64 0, .int .i64 0, .int .i64 0, .int .i64 0, .slice none 0 0] 26)).alloc (.cells #[.slice A n c, .slice B m d, .int .i64 l.office, .int .i64 l.bank, .int .i64 l.begun, .int .i64 l.inn, .int .i64 l.out, .slice D q e] 26)).heap.size = w.heap.size + 3 := by simp
  simp only [World.size_alloc] at hR hT
  have n9 := hL.n9
  have m9 := hL.m9
  have q9 := hL.q9
  have Hn := Lib.hid hL.hn
  have Hm := Lib.hid hL.hm
  have Hq := Lib.hid hL.hq
  unfold ledV
  have HL := Lib.hid hL
  clear hL
  go_enter Tryz.func34, Tryz.ntmps34
  go_upto_region 2 with fail
  change Blk (((w.alloc (.cells #[.slice A n c, .slice B m d, .int .i64 l.office, .int .i64 l.bank, .int .i64 l.begun, .int .i64 l.inn, .int .i64 l.out, .slice D q e] 26)).alloc (.cells #[.slice none 0 0, .slice none 0 0, .int .i64 0, .int .i64 0, .int .i64 0, .int .i64 0, .int .i64 0, .slice none 0 0] 26)).alloc (.cells #[.slice A n c, .slice B m d, .int .i64 l.office, .int .i64 l.bank, .int .i64 l.begun, .int .i64 l.inn, .int .i64 l.out, .slice D q e] 26)) _ _ _ at hX
  change Blk (((w.alloc (.cells #[.slice A n c, .slice B m d, .int .i64 l.office, .int .i64 l.bank, .int .i64 l.begun, .int .i64 l.inn, .int .i64 l.out, .slice D q e] 26)).alloc (.cells #[.slice none 0 0, .slice none 0 0, .int .i64 0, .int .i64 0, .int .i64 0, .int .i64 0, .int .i64 0, .slice none 0 0] 26)).alloc (.cells #[.slice A n c, .slice B m d, .int .i64 l.office, .int .i64 l.bank, .int .i64 l.begun, .int .i64 l.inn, .int .i64 l.out, .slice D q e] 26)) _ _ _ at hR
  change Blk (((w.alloc (.cells #[.slice A n c, .slice B m d, .int .i64 l.office, .int .i64 l.bank, .int .i64 l.begun, .int .i64 l.inn, .int .i64 l.out, .slice D q e] 26)).alloc (.cells #[.slice none 0 0, .slice none 0 0, .int .i64 0, .int .i64 0, .int .i64 0, .int .i64 0, .int .i64 0, .slice none 0 0] 26)).alloc (.cells #[.slice A n c, .slice B m d, .int .i64 l.office, .int .i64 l.bank, .int .i64 l.begun, .int .i64 l.inn, .int .i64 l.out, .slice D q e] 26)) _ _ _ at hT
  change Below w.heap.size w (((w.alloc (.cells #[.slice A n c, .slice B m d, .int .i64 l.office, .int .i64 l.bank, .int .i64 l.begun, .int .i64 l.inn, .int .i64 l.out, .slice D q e] 26)).alloc (.cells #[.slice none 0 0, .slice none 0 0, .int .i64 0, .int .i64 0, .int .i64 0, .int .i64 0, .int .i64 0, .slice none 0 0] 26)).alloc (.cells #[.slice A n c, .slice B m d, .int .i64 l.office, .int .i64 l.bank, .int .i64 l.begun, .int .i64 l.inn, .int .i64 l.out, .slice D q e] 26)) at hb0
  change (((w.alloc (.cells #[.slice A n c, .slice B m d, .int .i64 l.office, .int .i64 l.bank, .int .i64 l.begun, .int .i64 l.inn, .int .i64 l.out, .slice D q e] 26)).alloc (.cells #[.slice none 0 0, .slice none 0 0, .int .i64 0, .int .i64 0, .int .i64 0, .int .i64 0, .int .i64 0, .slice none 0 0] 26)).alloc (.cells #[.slice A n c, .slice B m d, .int .i64 l.office, .int .i64 l.bank, .int .i64 l.begun, .int .i64 l.inn, .int .i64 l.out, .slice D q e] 26)).heap.size = _ at hsz
  generalize (((w.alloc (.cells #[.slice A n c, .slice B m d, .int .i64 l.office, .int .i64 l.bank, .int .i64 l.begun, .int .i64 l.inn, .int .i64 l.out, .slice D q e] 26)).alloc (.cells #[.slice none 0 0, .slice none 0 0, .int .i64 0, .int .i64 0, .int .i64 0, .int .i64 0, .int .i64 0, .slice none 0 0] 26)).alloc (.cells #[.slice A n c, .slice B m d, .int .i64 l.office, .int .i64 l.bank, .int .i64 l.begun, .int .i64 l.inn, .int .i64 l.out, .slice D q e] 26)) = W0 at *
  have hbw := hb0
  clear hb0
  have hsw := hbw.size
  have hTl := hT.lt
  have hC := Lib.hid (HL.out.ext hbw).a
  go_cut [7] (fun z W => ∃ v0, v0 = z ∧ OwnL W w.heap.size 3 1 encI v0 l.windows ∧ (∀ g, v0.ownBlock = some g → W0.heap.size ≤ g) ∧ Blk W w.heap.size 26 [.slice A n c, .slice B m d, .int .i64 l.office, .int .i64 l.bank, .int .i64 l.begun, .int .i64 l.inn, .int .i64 l.out, .slice D q e] ∧ Blk W (w.heap.size + 1) 26 [.slice none 0 0, .slice none 0 0, .int .i64 0, .int .i64 0, .int .i64 0, .int .i64 0, .int .i64 0, .slice none 0 0] ∧ Blk W (w.heap.size + 2) 26 [v0, .slice B m d, .int .i64 l.office, .int .i64 l.bank, .int .i64 l.begun, .int .i64 l.inn, .int .i64 l.out, .slice D q e] ∧ Below w.heap.size w W)
  case first =>
    have x0 : W0.cell? ⟨w.heap.size, 0, none⟩ = _ := hX.cell (i := 0) rfl
    have hE := Lib.hid (show OwnL W0 w.heap.size 3 1 encI (.slice none 0 0) [] from OwnL.nil)
    go_wp2_with (at_builtin; refine app_rows encI 22 3 1 8 et27 (by decide) (by decide) encI_len encI_one rfl _ _ rfl w.heap.size _ [] rfl hE.out A n c l.windows Hn.out rfl hC.out (by simp; omega) hsw ?_; intro v0 W1 own0 hb1 hg1 hat0; rw [List.nil_append] at own0; obtain ⟨A1, c1, hv1, -, -, -⟩ := own0.cells encI_len; have hat' : ∀ g, v0.ownBlock = some g → W0.heap.size ≤ g := (fun g hg => by (rcases hat0 with ⟨h0, -⟩ | ⟨g', cap', h0, h | h⟩; (rw [h0] at hg; cases hg); (cases h); (have : g' = g := (by rw [h0] at hg; simpa [Value.ownBlock] using hg); omega))); clear hat0; subst hv1; have hN := below_grown hg1; have hX' := hX.ext hN; have hR' := hR.ext hN; have hT' := hT.ext hN; have y0 : W1.cell? ⟨w.heap.size + 2, 0, none⟩ = _ := hT'.cell (i := 0) rfl; have f0 := hT'.free 0)
    have hbf := Dr.Bel.store (M := [w.heap.size + 2]) (w := W1) (p := ⟨w.heap.size + 2, 0, none⟩) (by simp) (.slice A1 l.windows.length c1)
    go_meet
    case rel =>
      exact ⟨_, rfl, own0.put (p := ⟨w.heap.size + 2, 0, none⟩) (fun e => by have := hat' _ e; simp only at this; omega) _, hat', hbf.blk hX' (by simp), hbf.blk hR' (by simp), hT'.set 0 _, (hbw.trans (hN.mono hsw)).setCell (p := ⟨w.heap.size + 2, 0, none⟩) (by simp only; omega) _⟩
  case rest =>
  obtain ⟨v0, rfl, own0, hat, hX2, hR2, hT2, hbw2⟩ := hcut
  clear hX hR hT hbw hC
  generalize wc = W2 at *
  have hX := hX2
  have hR := hR2
  have hT := hT2
  have hbw := hbw2
  clear hX2 hR2 hT2 hbw2 
  have hgt0 : ∀ g, v0.ownBlock = some g → g ≠ w.heap.size + 2 ∧ g ≠ w.heap.size + 1 := fun g hg => by have := hat g hg; omega
  have hgr0 : ∀ g, v0.ownBlock = some g → g ≠ w.heap.size + 1 := fun g hg => (hgt0 g hg).2
  clear hat hTl hsw
  have hsz3 : w.heap.size + 2 < W2.heap.size := hT.lt
  go_upto_region 3 with fail
  have hlt0 : ∀ g, v0.ownBlock = some g → g < W2.heap.size := fun g hg => (own0.lt hg).2
  have hsw := hbw.size
  have hTl := hT.lt
  have hC := Lib.hid (HL.out.ext hbw).b
  go_cut [11] (fun z W => ∃ v1, v1 = z ∧ OwnL W w.heap.size 83 6 Bag.enc v1 l.bags ∧ (∀ g, v1.ownBlock = some g → W2.heap.size ≤ g) ∧ Blk W w.heap.size 26 [.slice A n c, .slice B m d, .int .i64 l.office, .int .i64 l.bank, .int .i64 l.begun, .int .i64 l.inn, .int .i64 l.out, .slice D q e] ∧ Blk W (w.heap.size + 1) 26 [.slice none 0 0, .slice none 0 0, .int .i64 0, .int .i64 0, .int .i64 0, .int .i64 0, .int .i64 0, .slice none 0 0] ∧ Blk W (w.heap.size + 2) 26 [v0, v1, .int .i64 l.office, .int .i64 l.bank, .int .i64 l.begun, .int .i64 l.inn, .int .i64 l.out, .slice D q e] ∧ Below w.heap.size w W ∧ OwnL W w.heap.size 3 1 encI v0 l.windows)
  case first =>
    have x1 : W2.cell? ⟨w.heap.size, 1, none⟩ = _ := hX.cell (i := 1) rfl
    have hE := Lib.hid (show OwnL W2 w.heap.size 83 6 Bag.enc (.slice none 0 0) [] from OwnL.nil)
    go_wp2_with (at_builtin; refine app_rows Bag.enc 23 83 6 48 et23 (by decide) (by decide) bag_len bag_one rfl _ _ rfl w.heap.size _ [] rfl hE.out B m d l.bags Hm.out rfl hC.out (by simp; omega) hsw ?_; intro v1 W3 own1 hb1 hg1 hat1; rw [List.nil_append] at own1; obtain ⟨A1, c1, hv1, -, -, -⟩ := own1.cells bag_len; have hat' : ∀ g, v1.ownBlock = some g → W2.heap.size ≤ g := (fun g hg => by (rcases hat1 with ⟨h0, -⟩ | ⟨g', cap', h0, h | h⟩; (rw [h0] at hg; cases hg); (cases h); (have : g' = g := (by rw [h0] at hg; simpa [Value.ownBlock] using hg); omega))); clear hat1; subst hv1; have hN := below_grown hg1; have hX' := hX.ext hN; have hR' := hR.ext hN; have hT' := hT.ext hN; have y1 : W3.cell? ⟨w.heap.size + 2, 1, none⟩ = _ := hT'.cell (i := 1) rfl; have f1 := hT'.free 1)
    have hbf := Dr.Bel.store (M := [w.heap.size + 2]) (w := W3) (p := ⟨w.heap.size + 2, 1, none⟩) (by simp) (.slice A1 l.bags.length c1)
    go_meet
    case rel =>
      exact ⟨_, rfl, own1.put (p := ⟨w.heap.size + 2, 1, none⟩) (fun e => by have := hat' _ e; simp only at this; omega) _, hat', hbf.blk hX' (by simp), hbf.blk hR' (by simp), hT'.set 1 _, (hbw.trans (hN.mono hsw)).setCell (p := ⟨w.heap.size + 2, 1, none⟩) (by simp only; omega) _, (own0.ext hN).put (p := ⟨w.heap.size + 2, 1, none⟩) (fun e => (hgt0 _ e).1 rfl) _⟩
  case rest =>
  obtain ⟨v1, rfl, own1, hat, hX2, hR2, hT2, hbw2, hoo0⟩ := hcut
  clear hX hR hT hbw hC own0
  generalize wc = W4 at *
  have hX := hX2
  have hR := hR2
  have hT := hT2
  have hbw := hbw2
  have own0 := hoo0
  have hdd01 : ∀ g, v0.ownBlock = some g → v1.ownBlock ≠ some g := fun g h1 h2 => by have := hlt0 g h1; have := hat g h2; omega
  clear hX2 hR2 hT2 hbw2 hoo0
  have hgt1 : ∀ g, v1.ownBlock = some g → g ≠ w.heap.size + 2 ∧ g ≠ w.heap.size + 1 := fun g hg => by have := hat g hg; omega
  have hgr1 : ∀ g, v1.ownBlock = some g → g ≠ w.heap.size + 1 := fun g hg => (hgt1 g hg).2
  clear hat hTl hsw
  have hsz5 : w.heap.size + 2 < W4.heap.size := hT.lt
  go_upto_region 4 with fail
  clear hlt0
  have hlt0 : ∀ g, v0.ownBlock = some g → g < W4.heap.size := fun g hg => (own0.lt hg).2
  have hlt1 : ∀ g, v1.ownBlock = some g → g < W4.heap.size := fun g hg => (own1.lt hg).2
  have hsw := hbw.size
  have hTl := hT.lt
  have hC := Lib.hid (HL.out.ext hbw).d
  go_cut [15] (fun z W => ∃ v7, v7 = z ∧ OwnL W w.heap.size 84 3 Dif.enc v7 l.diffs ∧ (∀ g, v7.ownBlock = some g → W4.heap.size ≤ g) ∧ Blk W w.heap.size 26 [.slice A n c, .slice B m d, .int .i64 l.office, .int .i64 l.bank, .int .i64 l.begun, .int .i64 l.inn, .int .i64 l.out, .slice D q e] ∧ Blk W (w.heap.size + 1) 26 [.slice none 0 0, .slice none 0 0, .int .i64 0, .int .i64 0, .int .i64 0, .int .i64 0, .int .i64 0, .slice none 0 0] ∧ Blk W (w.heap.size + 2) 26 [v0, v1, .int .i64 l.office, .int .i64 l.bank, .int .i64 l.begun, .int .i64 l.inn, .int .i64 l.out, v7] ∧ Below w.heap.size w W ∧ OwnL W w.heap.size 3 1 encI v0 l.windows ∧ OwnL W w.heap.size 83 6 Bag.enc v1 l.bags)
  case first =>
    have x7 : W4.cell? ⟨w.heap.size, 7, none⟩ = _ := hX.cell (i := 7) rfl
    have hE := Lib.hid (show OwnL W4 w.heap.size 84 3 Dif.enc (.slice none 0 0) [] from OwnL.nil)
    go_wp2_with (at_builtin; refine app_rows Dif.enc 24 84 3 24 et24 (by decide) (by decide) dif_len dif_one rfl _ _ rfl w.heap.size _ [] rfl hE.out D q e l.diffs Hq.out rfl hC.out (by simp; omega) hsw ?_; intro v7 W5 own7 hb1 hg1 hat7; rw [List.nil_append] at own7; obtain ⟨A1, c1, hv1, -, -, -⟩ := own7.cells dif_len; have hat' : ∀ g, v7.ownBlock = some g → W4.heap.size ≤ g := (fun g hg => by (rcases hat7 with ⟨h0, -⟩ | ⟨g', cap', h0, h | h⟩; (rw [h0] at hg; cases hg); (cases h); (have : g' = g := (by rw [h0] at hg; simpa [Value.ownBlock] using hg); omega))); clear hat7; subst hv1; have hN := below_grown hg1; have hX' := hX.ext hN; have hR' := hR.ext hN; have hT' := hT.ext hN; have y7 : W5.cell? ⟨w.heap.size + 2, 7, none⟩ = _ := hT'.cell (i := 7) rfl; have f7 := hT'.free 7)
    have hbf := Dr.Bel.store (M := [w.heap.size + 2]) (w := W5) (p := ⟨w.heap.size + 2, 7, none⟩) (by simp) (.slice A1 l.diffs.length c1)
    go_meet
    case rel =>
      exact ⟨_, rfl, own7.put (p := ⟨w.heap.size + 2, 7, none⟩) (fun e => by have := hat' _ e; simp only at this; omega) _, hat', hbf.blk hX' (by simp), hbf.blk hR' (by simp), hT'.set 7 _, (hbw.trans (hN.mono hsw)).setCell (p := ⟨w.heap.size + 2, 7, none⟩) (by simp only; omega) _, (own0.ext hN).put (p := ⟨w.heap.size + 2, 7, none⟩) (fun e => (hgt0 _ e).1 rfl) _, (own1.ext hN).put (p := ⟨w.heap.size + 2, 7, none⟩) (fun e => (hgt1 _ e).1 rfl) _⟩
  case rest =>
  obtain ⟨v7, rfl, own7, hat, hX2, hR2, hT2, hbw2, hoo0, hoo1⟩ := hcut
  clear hX hR hT hbw hC own0 own1
  generalize wc = W6 at *
  have hX := hX2
  have hR := hR2
  have hT := hT2
  have hbw := hbw2
  have own0 := hoo0
  have hdd07 : ∀ g, v0.ownBlock = some g → v7.ownBlock ≠ some g := fun g h1 h2 => by have := hlt0 g h1; have := hat g h2; omega
  have own1 := hoo1
  have hdd17 : ∀ g, v1.ownBlock = some g → v7.ownBlock ≠ some g := fun g h1 h2 => by have := hlt1 g h1; have := hat g h2; omega
  clear hX2 hR2 hT2 hbw2 hoo0 hoo1
  have hgt7 : ∀ g, v7.ownBlock = some g → g ≠ w.heap.size + 2 ∧ g ≠ w.heap.size + 1 := fun g hg => by have := hat g hg; omega
  have hgr7 : ∀ g, v7.ownBlock = some g → g ≠ w.heap.size + 1 := fun g hg => (hgt7 g hg).2
  clear hat hTl hsw
  have hsz7 : w.heap.size + 2 < W6.heap.size := hT.lt
  go_upto_region 5 with fail
  clear hlt0
  have hlt0 : ∀ g, v0.ownBlock = some g → g < W6.heap.size := fun g hg => (own0.lt hg).2
  clear hlt1
  have hlt1 : ∀ g, v1.ownBlock = some g → g < W6.heap.size := fun g hg => (own1.lt hg).2
  have hlt7 : ∀ g, v7.ownBlock = some g → g < W6.heap.size := fun g hg => (own7.lt hg).2
  obtain ⟨A', c', rfl, -, -, -⟩ := own0.cells encI_len
  obtain ⟨B', d', rfl, -, -, -⟩ := own1.cells bag_len
  obtain ⟨D', e', rfl, -, -, -⟩ := own7.cells dif_len
  rw [Hn.out] at own0 hT hdd01 hdd07 hgr0
  rw [Hm.out] at own1 hT hdd01 hdd17 hgr1
  rw [Hq.out] at own7 hT hdd07 hdd17 hgr7
  replace hT : Blk W6 (w.heap.size + 2) 26 [.slice A' n c', .slice B' m d', .int .i64 l.office, .int .i64 l.bank, .int .i64 l.begun, .int .i64 l.inn, .int .i64 l.out, .slice D' q e'] := hT
  have y0 : W6.cell? ⟨w.heap.size + 2, 0, none⟩ = _ := hT.cell (i := 0) rfl
  have y1 : W6.cell? ⟨w.heap.size + 2, 1, none⟩ = _ := hT.cell (i := 1) rfl
  have y2 : W6.cell? ⟨w.heap.size + 2, 2, none⟩ = _ := hT.cell (i := 2) rfl
  have y3 : W6.cell? ⟨w.heap.size + 2, 3, none⟩ = _ := hT.cell (i := 3) rfl
  have y4 : W6.cell? ⟨w.heap.size + 2, 4, none⟩ = _ := hT.cell (i := 4) rfl
  have y5 : W6.cell? ⟨w.heap.size + 2, 5, none⟩ = _ := hT.cell (i := 5) rfl
  have y6 : W6.cell? ⟨w.heap.size + 2, 6, none⟩ = _ := hT.cell (i := 6) rfl
  have y7 : W6.cell? ⟨w.heap.size + 2, 7, none⟩ = _ := hT.cell (i := 7) rfl
  have z0 : W6.cell? ⟨w.heap.size + 1, 0, none⟩ = _ := hR.cell (i := 0) rfl
  have z1 : W6.cell? ⟨w.heap.size + 1, 1, none⟩ = _ := hR.cell (i := 1) rfl
  have z2 : W6.cell? ⟨w.heap.size + 1, 2, none⟩ = _ := hR.cell (i := 2) rfl
  have z3 : W6.cell? ⟨w.heap.size + 1, 3, none⟩ = _ := hR.cell (i := 3) rfl
  have z4 : W6.cell? ⟨w.heap.size + 1, 4, none⟩ = _ := hR.cell (i := 4) rfl
  have z5 : W6.cell? ⟨w.heap.size + 1, 5, none⟩ = _ := hR.cell (i := 5) rfl
  have z6 : W6.cell? ⟨w.heap.size + 1, 6, none⟩ = _ := hR.cell (i := 6) rfl
  have z7 : W6.cell? ⟨w.heap.size + 1, 7, none⟩ = _ := hR.cell (i := 7) rfl
  have f0 := hR.free 0
  have f1 := hR.free 1
  have f2 := hR.free 2
  have f3 := hR.free 3
  have f4 := hR.free 4
  have f5 := hR.free 5
  have f6 := hR.free 6
  have f7 := hR.free 7
  go_wp2
  generalize hWf : World.setCell _ _ _ = Wf
  have hRf := hR.put_eq [.slice A' n c', .slice B' m d', .int .i64 l.office, .int .i64 l.bank, .int .i64 l.begun, .int .i64 l.inn, .int .i64 l.out, .slice D' q e'] hWf rfl
  have hbf : Dr.Bel [w.heap.size + 1] W6 Wf := bel_put_eq [.slice A' n c', .slice B' m d', .int .i64 l.office, .int .i64 l.bank, .int .i64 l.begun, .int .i64 l.inn, .int .i64 l.out, .slice D' q e'] hWf
  clear hWf y0 z0 f0 y1 z1 f1 y2 z2 f2 y3 z3 f3 y4 z4 f4 y5 z5 f5 y6 z6 f6 y7 z7 f7
  have o0 : Wf.cell? ⟨w.heap.size + 1, 0, none⟩ = _ := hRf.cell (i := 0) rfl
  have o1 : Wf.cell? ⟨w.heap.size + 1, 1, none⟩ = _ := hRf.cell (i := 1) rfl
  have o2 : Wf.cell? ⟨w.heap.size + 1, 2, none⟩ = _ := hRf.cell (i := 2) rfl
  have o3 : Wf.cell? ⟨w.heap.size + 1, 3, none⟩ = _ := hRf.cell (i := 3) rfl
  have o4 : Wf.cell? ⟨w.heap.size + 1, 4, none⟩ = _ := hRf.cell (i := 4) rfl
  have o5 : Wf.cell? ⟨w.heap.size + 1, 5, none⟩ = _ := hRf.cell (i := 5) rfl
  have o6 : Wf.cell? ⟨w.heap.size + 1, 6, none⟩ = _ := hRf.cell (i := 6) rfl
  have o7 : Wf.cell? ⟨w.heap.size + 1, 7, none⟩ = _ := hRf.cell (i := 7) rfl
  refine bodyPost_ret (v := .agg #[.slice A' n c', .slice B' m d', .int .i64 l.office, .int .i64 l.bank, .int .i64 l.begun, .int .i64 l.inn, .int .i64 l.out, .slice D' q e']) (by simp [results, Tryz.results34, go_sem, o0, o1, o2, o3, o4, o5, o6, o7]) rfl ?_
  have hw1 := hbw.trans (hbf.old (n := w.heap.size) hbw.size (by simp))
  have keep : ∀ {α : Type} {ty sz : Nat} {enc : α → List Value} {v : Value} {li : List α}, OwnL W6 w.heap.size ty sz enc v li → (∀ g, v.ownBlock = some g → g ≠ w.heap.size + 1) → OwnL Wf w.heap.size ty sz enc v li := by
    intro α ty sz enc v li ho hne
    refine ho.kept (⟨hbf.os, hbf.tape, hbf.output, hbf.size, fun k hk hn => hbf.block k hk (by simp; intro e; exact hn (by rw [e]))⟩ : World.grownBy W6 Wf (some (w.heap.size + 1))) ?_
    cases hv : v.ownBlock with
    | none => exact .inl rfl
    | some x => exact .inr (fun e => hne x hv (by cases e; rfl))
  exact ⟨A', c', B', d', D', e', rfl, ⟨Hn.out, Hm.out, Hq.out, n9, m9, q9, keep own0 (fun g hg => hgr0 g hg), keep own1 (fun g hg => hgr1 g hg), keep own7 (fun g hg => hgr7 g hg), hdd01, hdd07, hdd17⟩, hw1⟩
end Go.Proofs.YtnjdlhhgnamigaaGreat

/- Plain law: the reference's acts and the program's are alike. -/
namespace Go.Pu
open Go.Pl
def refStep (l : Led) (a : Act) : Led × Int :=
  if a.kind = 1 ∨ a.kind = 2 ∨ a.kind = 3 then counterR l a else if a.kind = 4 then packR l a else if a.kind = 5 then touchR l a.bag a.sl a.amount
  else if a.kind = 6 then openR l a.bag a.sl a.amount else if a.kind = 7 ∨ a.kind = 8 then bankR l a else (l, 1)
def refEnd (x : Led × Int) : Led × Int := if x.2 = 0 then (if x.1.lowB then (x.1, 0) else (Led.zero, 3)) else (Led.zero, x.2)
theorem all_set {ws : List Int} (h : ∀ x ∈ ws, x ≤ 1000000000000) {i : Nat} (hi : i < ws.length) (x : Int) : (ws.set i x).all (fun y => decide (y ≤ 1000000000000)) = decide (x ≤ 1000000000000) := by
  by_cases hx : x ≤ 1000000000000
  · rw [decide_eq_true hx, List.all_eq_true]
    intro y hy
    rcases List.mem_or_eq_of_mem_set hy with h1 | rfl
    · exact decide_eq_true (h y h1)
    · exact decide_eq_true hx
  · rw [decide_eq_false hx, List.all_eq_false]
    exact ⟨x, List.mem_set hi x, by simpa using hx⟩
theorem all_low {ws : List Int} (h : ∀ x ∈ ws, x ≤ 1000000000000) : ws.all (fun y => decide (y ≤ 1000000000000)) = true := by
  rw [List.all_eq_true]; exact fun y hy => decide_eq_true (h y hy)
theorem end_bad (l : Led) (e : Int) (h : e ≠ 0) : refEnd (l, e) = (Led.zero, e) := by unfold refEnd; rw [if_neg h]
theorem end_ok (l : Led) (h : l.lowB = true) : refEnd (l, 0) = (l, 0) := by unfold refEnd; simp [h]
theorem end_high (l : Led) (h : l.lowB = false) : refEnd (l, 0) = (Led.zero, 3) := by unfold refEnd; simp [h]
theorem low_w {l : Led} (h : l.mon) {w : Int} (hw : l.winB w = true) (d o k i t : Int) (bs : List Bag) (ds : List Dif) : Led.lowB ⟨(l.addW w d).windows, bs, o, k, l.begun, i, t, ds⟩ = (decide (l.win w + d ≤ 1000000000000) && (decide (o ≤ 1000000000000) && (decide (k ≤ 1000000000000) && (decide (i ≤ 1000000000000) && decide (t ≤ 1000000000000))))) := by
  unfold Led.winB at hw
  have hw := of_decide_eq_true hw
  unfold Led.lowB Led.addW
  simp only
  rw [all_set (fun x hx => (h.w x hx).2) (by omega)]
  rfl
theorem low_n {l : Led} (h : l.mon) (o k i t : Int) (bs : List Bag) (ds : List Dif) : Led.lowB ⟨l.windows, bs, o, k, l.begun, i, t, ds⟩ = (decide (o ≤ 1000000000000) && (decide (k ≤ 1000000000000) && (decide (i ≤ 1000000000000) && decide (t ≤ 1000000000000)))) := by
  unfold Led.lowB
  simp only
  rw [all_low (fun x hx => (h.w x hx).2), Bool.true_and]
theorem ref_do {l : Led} (h : l.mon) (a : Act) : doL l a = refEnd (refStep l a) := by
  have ho := h.o.2
  have hk := h.k.2
  have hi := h.i.2
  have ht := h.t.2
  have hwb := win_bd h a.window
  have dt : ∀ {p : Prop} [Decidable p], p → decide p = true := fun h => decide_eq_true h
  have df : ∀ {p : Prop} [Decidable p], ¬ p → decide p = false := fun h => decide_eq_false h
  unfold doL refStep
  by_cases k1 : a.kind = 1
  · rw [if_pos k1, if_pos (show a.kind = 1 ∨ a.kind = 2 ∨ a.kind = 3 from .inl k1)]
    unfold counterR
    rw [if_pos k1]
    by_cases c1 : (!l.winB a.window || !a.amB) = true
    · rw [if_pos c1, if_pos c1, end_bad _ _ (by decide)]
    rw [if_neg c1, if_neg c1]
    by_cases c2 : l.office < a.amount
    · rw [if_pos c2, if_pos c2, end_bad _ _ (by decide)]
    rw [if_neg c2, if_neg c2]
    have hw : l.winB a.window = true := by simp at c1; exact c1.1
    have ha : a.amB = true := by simp at c1; exact c1.2
    have ha := of_decide_eq_true ha
    have hlow := low_w h hw a.amount (l.office - a.amount) l.bank l.inn l.out l.bags l.diffs
    by_cases c3 : 1000000000000 < l.win a.window + a.amount
    · rw [if_pos c3]
      exact (end_high _ (by refine hlow.trans ?_; rw [df (by omega)]; rfl)).symm
    · rw [if_neg c3]
      exact (end_ok _ (by refine hlow.trans ?_; rw [dt (by omega), dt (by omega), dt hk, dt hi, dt ht]; rfl)).symm
  rw [if_neg k1]
  by_cases k2 : a.kind = 2
  · rw [if_pos k2, if_pos (show a.kind = 1 ∨ a.kind = 2 ∨ a.kind = 3 from .inr (.inl k2))]
    unfold counterR
    rw [if_neg k1, if_pos k2]
    by_cases c1 : (!l.winB a.window || !a.amB) = true
    · rw [if_pos c1, if_pos c1, end_bad _ _ (by decide)]
    rw [if_neg c1, if_neg c1]
    have hw : l.winB a.window = true := by simp at c1; exact c1.1
    have hlow := low_w h hw a.amount l.office l.bank (l.inn + a.amount) l.out l.bags l.diffs
    by_cases c3 : 1000000000000 < l.win a.window + a.amount
    · rw [if_pos c3]
      exact (end_high _ (by refine hlow.trans ?_; rw [df (by omega)]; rfl)).symm
    rw [if_neg c3]
    by_cases c4 : 1000000000000 < l.inn + a.amount
    · rw [if_pos c4]
      exact (end_high _ (by refine hlow.trans ?_; rw [df (show ¬ l.inn + a.amount ≤ 1000000000000 by omega)]; simp)).symm
    · rw [if_neg c4]
      exact (end_ok _ (by refine hlow.trans ?_; rw [dt (by omega), dt ho, dt hk, dt (show l.inn + a.amount ≤ 1000000000000 by omega), dt ht]; rfl)).symm
  rw [if_neg k2]
  by_cases k3 : a.kind = 3
  · rw [if_pos k3, if_pos (show a.kind = 1 ∨ a.kind = 2 ∨ a.kind = 3 from .inr (.inr k3))]
    unfold counterR
    rw [if_neg k1, if_neg k2, if_pos k3]
    by_cases c1 : (!l.winB a.window || !a.amB) = true
    · rw [if_pos c1, if_pos c1, end_bad _ _ (by decide)]
    rw [if_neg c1, if_neg c1]
    by_cases c2 : l.win a.window < a.amount
    · rw [if_pos c2, if_pos c2, end_bad _ _ (by decide)]
    rw [if_neg c2, if_neg c2]
    have hw : l.winB a.window = true := by simp at c1; exact c1.1
    have ha : a.amB = true := by simp at c1; exact c1.2
    have ha := of_decide_eq_true ha
    have hlow := low_w h hw (-a.amount) l.office l.bank l.inn (l.out + a.amount) l.bags l.diffs
    by_cases c3 : 1000000000000 < l.out + a.amount
    · rw [if_pos c3]
      exact (end_high _ (by refine hlow.trans ?_; rw [df (show ¬ l.out + a.amount ≤ 1000000000000 by omega)]; simp)).symm
    · rw [if_neg c3]
      exact (end_ok _ (by refine hlow.trans ?_; rw [dt (by omega), dt ho, dt hk, dt hi, dt (show l.out + a.amount ≤ 1000000000000 by omega)]; rfl)).symm
  rw [if_neg k3, if_neg (show ¬ (a.kind = 1 ∨ a.kind = 2 ∨ a.kind = 3) by omega)]
  by_cases k4 : a.kind = 4
  · rw [if_pos k4, if_pos k4]
    unfold packR
    by_cases c1 : (!l.winB a.window || (!sealB a.sl || (!a.amB || !monB a.written))) = true
    · rw [if_pos c1, if_pos c1, end_bad _ _ (by decide)]
    rw [if_neg c1, if_neg c1]
    by_cases c2 : 100 ≤ l.bags.length
    · rw [if_pos c2, if_pos c2, end_bad _ _ (by decide)]
    rw [if_neg c2, if_neg c2]
    by_cases c3 : l.sealed a.sl (-1) = true
    · rw [if_pos c3, if_pos c3, end_bad _ _ (by decide)]
    rw [if_neg c3, if_neg c3]
    by_cases c4 : l.win a.window < a.amount
    · rw [if_pos c4, if_pos c4, end_bad _ _ (by decide)]
    rw [if_neg c4, if_neg c4]
    have hw : l.winB a.window = true := by simp at c1; exact c1.1
    have ha : a.amB = true := by simp at c1; exact c1.2.2.1
    have ha := of_decide_eq_true ha
    have hlow := low_w h hw (-a.amount) l.office l.bank l.inn l.out (l.bags ++ [⟨a.window, a.sl, a.written, a.amount, a.sl, false⟩]) l.diffs
    exact (end_ok _ (by refine hlow.trans ?_; rw [dt (by omega), dt ho, dt hk, dt hi, dt ht]; rfl)).symm
  rw [if_neg k4, if_neg k4]
  by_cases k5 : a.kind = 5
  · rw [if_pos k5, if_pos k5]
    unfold touchR
    by_cases c1 : (!l.bgB a.bag || (!sealB a.sl || !monB a.amount)) = true
    · rw [if_pos c1, if_pos c1, end_bad _ _ (by decide)]
    rw [if_neg c1, if_neg c1]
    by_cases c2 : (l.bg a.bag).opened = true
    · rw [if_pos c2, if_pos c2, end_bad _ _ (by decide)]
    rw [if_neg c2, if_neg c2]
    by_cases c3 : l.sealed a.sl (-1) = true
    · rw [if_pos c3, if_pos c3, end_bad _ _ (by decide)]
    rw [if_neg c3, if_neg c3]
    by_cases c4 : (l.bg a.bag).holds < a.amount
    · rw [if_pos c4, if_pos c4, end_bad _ _ (by decide)]
    rw [if_neg c4, if_neg c4]
    have hlow := low_n h l.office l.bank l.inn (l.out + a.amount) (l.setBag a.bag { l.bg a.bag with holds := (l.bg a.bag).holds - a.amount, now := a.sl }).bags l.diffs
    by_cases c5 : 1000000000000 < l.out + a.amount
    · rw [if_pos c5]
      exact (end_high _ (by refine hlow.trans ?_; rw [df (show ¬ l.out + a.amount ≤ 1000000000000 by omega)]; simp)).symm
    · rw [if_neg c5]
      exact (end_ok _ (by refine hlow.trans ?_; rw [dt ho, dt hk, dt hi, dt (show l.out + a.amount ≤ 1000000000000 by omega)]; rfl)).symm
  rw [if_neg k5, if_neg k5]
  by_cases k6 : a.kind = 6
  · rw [if_pos k6, if_pos k6]
    unfold openR
    by_cases c1 : (!l.bgB a.bag) = true
    · rw [if_pos c1, if_pos c1, end_bad _ _ (by decide)]
    rw [if_neg c1, if_neg c1]
    by_cases c2 : (l.bg a.bag).opened = true
    · rw [if_pos c2, if_pos c2, end_bad _ _ (by decide)]
    rw [if_neg c2, if_neg c2]
    have hlow := low_n h (l.office + (l.bg a.bag).holds) l.bank l.inn l.out (l.setBag a.bag { l.bg a.bag with holds := 0, opened := true }).bags (if (l.bg a.bag).holds != (l.bg a.bag).written || (l.bg a.bag).broken then l.diffs ++ [⟨a.bag, (l.bg a.bag).written - (l.bg a.bag).holds, (l.bg a.bag).broken⟩] else l.diffs)
    by_cases c5 : 1000000000000 < l.office + (l.bg a.bag).holds
    · rw [if_pos c5]
      exact (end_high _ (by refine hlow.trans ?_; rw [df (show ¬ l.office + (l.bg a.bag).holds ≤ 1000000000000 by omega)]; simp)).symm
    · rw [if_neg c5]
      exact (end_ok _ (by refine hlow.trans ?_; rw [dt (show l.office + (l.bg a.bag).holds ≤ 1000000000000 by omega), dt hk, dt hi, dt ht]; rfl)).symm
  rw [if_neg k6, if_neg k6]
  by_cases k7 : a.kind = 7
  · rw [if_pos k7, if_pos (show a.kind = 7 ∨ a.kind = 8 from .inl k7)]
    unfold bankR
    rw [if_pos k7]
    by_cases c1 : (!a.amB) = true
    · rw [if_pos c1, if_pos c1, end_bad _ _ (by decide)]
    rw [if_neg c1, if_neg c1]
    by_cases c2 : l.office < a.amount
    · rw [if_pos c2, if_pos c2, end_bad _ _ (by decide)]
    rw [if_neg c2, if_neg c2]
    have ha : a.amB = true := by simpa using c1
    have ha := of_decide_eq_true ha
    have hlow := low_n h (l.office - a.amount) (l.bank + a.amount) l.inn l.out l.bags l.diffs
    by_cases c3 : 1000000000000 < l.bank + a.amount
    · rw [if_pos c3]
      exact (end_high _ (by refine hlow.trans ?_; rw [df (show ¬ l.bank + a.amount ≤ 1000000000000 by omega)]; simp)).symm
    · rw [if_neg c3]
      exact (end_ok _ (by refine hlow.trans ?_; rw [dt (show l.office - a.amount ≤ 1000000000000 by omega), dt (show l.bank + a.amount ≤ 1000000000000 by omega), dt hi, dt ht]; rfl)).symm
  rw [if_neg k7]
  by_cases k8 : a.kind = 8
  · rw [if_pos k8, if_pos (show a.kind = 7 ∨ a.kind = 8 from .inr k8)]
    unfold bankR
    rw [if_neg k7]
    by_cases c1 : (!a.amB) = true
    · rw [if_pos c1, if_pos c1, end_bad _ _ (by decide)]
    rw [if_neg c1, if_neg c1]
    by_cases c2 : l.bank < a.amount
    · rw [if_pos c2, if_pos c2, end_bad _ _ (by decide)]
    rw [if_neg c2, if_neg c2]
    have ha : a.amB = true := by simpa using c1
    have ha := of_decide_eq_true ha
    have hlow := low_n h l.office (l.bank - a.amount) l.inn (l.out + a.amount) l.bags l.diffs
    by_cases c3 : 1000000000000 < l.out + a.amount
    · rw [if_pos c3]
      exact (end_high _ (by refine hlow.trans ?_; rw [df (show ¬ l.out + a.amount ≤ 1000000000000 by omega)]; simp)).symm
    · rw [if_neg c3]
      exact (end_ok _ (by refine hlow.trans ?_; rw [dt ho, dt (show l.bank - a.amount ≤ 1000000000000 by omega), dt hi, dt (show l.out + a.amount ≤ 1000000000000 by omega)]; rfl)).symm
  rw [if_neg k8, if_neg (show ¬ (a.kind = 7 ∨ a.kind = 8) by omega), end_bad _ _ (by decide)]
end Go.Pu

/- Walk: Do, of the reference. -/
namespace Go.Proofs.YtnjdlhhgnamigaaGreat
open Go.RowKit Go.Bs Go.Pu Go.Pl Go.Sort
set_option maxRecDepth 100000 in
set_option maxHeartbeats 8000000 in
theorem DoR_any (l : Led) (a : Pu.Act) (A : Option Addr) (n c : Nat) (B : Option Addr) (m d : Nat) (D : Option Addr) (q e : Nat) (w : World) (hL : LedM w l A n B m D q) (hmon : l.mon) (hq : q ≤ 900) :
    Calls Tryz.prog 17 #[ledV A n c B m d l.office l.bank l.begun l.inn l.out D q e, Act.val a] w fun r w' => ∃ v, r = .returned (.tuple #[v, .int .i64 (doL l a).2]) ∧ LedFr w w' v (doL l a).1 ∧ Below w.heap.size w w' := by
  obtain ⟨a0, a1, a2, a3, a4, a5⟩ := a
  have hb0 : Below w.heap.size w (((w.alloc (.cells #[.slice A n c, .slice B m d, .int .i64 l.office, .int .i64 l.bank, .int .i64 l.begun, .int .i64 l.inn, .int .i64 l.out, .slice D q e] 26)).alloc (.cells #[.int .u8 a0, .int .i64 a1, .int .i64 a2, .int .i64 a3, .int .i64 a4, .int .i64 a5] 48)).alloc (.cells #[.slice none 0 0, .slice none 0 0, .int .i64 0, .int .i64 0, .int .i64 0, .int .i64 0, .int .i64 0, .slice none 0 0] 26)) := ((((Below.refl _ _).alloc (Nat.le_refl _) _).alloc (by simp) _).alloc (by simp; omega) _)
  have hX := ((Blk.new w 26 [.slice A n c, .slice B m d, .int .i64 l.office, .int .i64 l.bank, .int .i64 l.begun, .int .i64 l.inn, .int .i64 l.out, .slice D q e]).alloc (.cells #[.int .u8 a0, .int .i64 a1, .int .i64 a2, .int .i64 a3, .int .i64 a4, .int .i64 a5] 48)).alloc (.cells #[.slice none 0 0, .slice none 0 0, .int .i64 0, .int .i64 0, .int .i64 0, .int .i64 0, .int .i64 0, .slice none 0 0] 26)
  have hY := (Blk.new (w.alloc (.cells #[.slice A n c, .slice B m d, .int .i64 l.office, .int .i64 l.bank, .int .i64 l.begun, .int .i64 l.inn, .int .i64 l.out, .slice D q e] 26)) 48 [.int .u8 a0, .int .i64 a1, .int .i64 a2, .int .i64 a3, .int .i64 a4, .int .i64 a5]).alloc (.cells #[.slice none 0 0, .slice none 0 0, .int .i64 0, .int .i64 0, .int .i64 0, .int .i64 0, .int .i64 0, .slice none 0 0] 26)
  have hR := Blk.new ((w.alloc (.cells #[.slice A n c, .slice B m d, .int .i64 l.office, .int .i64 l.bank, .int .i64 l.begun, .int .i64 l.inn, .int .i64 l.out, .slice D q e] 26)).alloc (.cells #[.int .u8 a0, .int .i64 a1, .int .i64 a2, .int .i64 a3, .int .i64 a4, .int .i64 a5] 48)) 26 [.slice none 0 0, .slice none 0 0, .int .i64 0, .int .i64 0, .int .i64 0, .int .i64 0, .int .i64 0, .slice none 0 0]
  have hsz : (((w.alloc (.cells #[.slice A n c, .slice B m d, .int .i64 l.office, .int .i64 l.bank, .int .i64 l.begun, .int .i64 l.inn, .int .i64 l.out, .slice D q e] 26)).alloc (.cells #[.int .u8 a0, .int .i64 a1, .int .i64 a2, .int .i64 a3, .int .i64 a4, .int .i64 a5] 48)).alloc (.cells #[.slice none 0 0, .slice none 0 0, .int .i64 0, .int .i64 0, .int .i64 0, .int .i64 0, .int .i64 0, .slice none 0 0] 26)).heap.size = w.heap.size + 3 := by simp
  simp only [World.size_alloc] at hY hR
  have hL0 := hL.ext hb0
  have CC := Lib.hid (fun W h => Copy_any l A n c B m d D q e W h)
  have Hdo := Lib.hid (ref_do hmon ⟨a0, a1, a2, a3, a4, a5⟩)
  have Hmon := Lib.hid hmon
  generalize doL l ⟨a0, a1, a2, a3, a4, a5⟩ = res at *
  unfold ledV Act.val at *
  clear hL hmon
  go_enter Tryz.func17, Tryz.ntmps17
  go_upto_region 1 with fail
  change Blk (((w.alloc (.cells #[.slice A n c, .slice B m d, .int .i64 l.office, .int .i64 l.bank, .int .i64 l.begun, .int .i64 l.inn, .int .i64 l.out, .slice D q e] 26)).alloc (.cells #[.int .u8 a0, .int .i64 a1, .int .i64 a2, .int .i64 a3, .int .i64 a4, .int .i64 a5] 48)).alloc (.cells #[.slice none 0 0, .slice none 0 0, .int .i64 0, .int .i64 0, .int .i64 0, .int .i64 0, .int .i64 0, .slice none 0 0] 26)) _ _ _ at hX
  change Blk (((w.alloc (.cells #[.slice A n c, .slice B m d, .int .i64 l.office, .int .i64 l.bank, .int .i64 l.begun, .int .i64 l.inn, .int .i64 l.out, .slice D q e] 26)).alloc (.cells #[.int .u8 a0, .int .i64 a1, .int .i64 a2, .int .i64 a3, .int .i64 a4, .int .i64 a5] 48)).alloc (.cells #[.slice none 0 0, .slice none 0 0, .int .i64 0, .int .i64 0, .int .i64 0, .int .i64 0, .int .i64 0, .slice none 0 0] 26)) _ _ _ at hY
  change Blk (((w.alloc (.cells #[.slice A n c, .slice B m d, .int .i64 l.office, .int .i64 l.bank, .int .i64 l.begun, .int .i64 l.inn, .int .i64 l.out, .slice D q e] 26)).alloc (.cells #[.int .u8 a0, .int .i64 a1, .int .i64 a2, .int .i64 a3, .int .i64 a4, .int .i64 a5] 48)).alloc (.cells #[.slice none 0 0, .slice none 0 0, .int .i64 0, .int .i64 0, .int .i64 0, .int .i64 0, .int .i64 0, .slice none 0 0] 26)) _ _ _ at hR
  change Below w.heap.size w (((w.alloc (.cells #[.slice A n c, .slice B m d, .int .i64 l.office, .int .i64 l.bank, .int .i64 l.begun, .int .i64 l.inn, .int .i64 l.out, .slice D q e] 26)).alloc (.cells #[.int .u8 a0, .int .i64 a1, .int .i64 a2, .int .i64 a3, .int .i64 a4, .int .i64 a5] 48)).alloc (.cells #[.slice none 0 0, .slice none 0 0, .int .i64 0, .int .i64 0, .int .i64 0, .int .i64 0, .int .i64 0, .slice none 0 0] 26)) at hb0
  change (((w.alloc (.cells #[.slice A n c, .slice B m d, .int .i64 l.office, .int .i64 l.bank, .int .i64 l.begun, .int .i64 l.inn, .int .i64 l.out, .slice D q e] 26)).alloc (.cells #[.int .u8 a0, .int .i64 a1, .int .i64 a2, .int .i64 a3, .int .i64 a4, .int .i64 a5] 48)).alloc (.cells #[.slice none 0 0, .slice none 0 0, .int .i64 0, .int .i64 0, .int .i64 0, .int .i64 0, .int .i64 0, .slice none 0 0] 26)).heap.size = _ at hsz
  change LedM (((w.alloc (.cells #[.slice A n c, .slice B m d, .int .i64 l.office, .int .i64 l.bank, .int .i64 l.begun, .int .i64 l.inn, .int .i64 l.out, .slice D q e] 26)).alloc (.cells #[.int .u8 a0, .int .i64 a1, .int .i64 a2, .int .i64 a3, .int .i64 a4, .int .i64 a5] 48)).alloc (.cells #[.slice none 0 0, .slice none 0 0, .int .i64 0, .int .i64 0, .int .i64 0, .int .i64 0, .int .i64 0, .slice none 0 0] 26)) _ _ _ _ _ _ _ at hL0
  generalize (((w.alloc (.cells #[.slice A n c, .slice B m d, .int .i64 l.office, .int .i64 l.bank, .int .i64 l.begun, .int .i64 l.inn, .int .i64 l.out, .slice D q e] 26)).alloc (.cells #[.int .u8 a0, .int .i64 a1, .int .i64 a2, .int .i64 a3, .int .i64 a4, .int .i64 a5] 48)).alloc (.cells #[.slice none 0 0, .slice none 0 0, .int .i64 0, .int .i64 0, .int .i64 0, .int .i64 0, .int .i64 0, .slice none 0 0] 26)) = W0 at *
  have x0 : W0.cell? ⟨w.heap.size, 0, none⟩ = _ := hX.cell (i := 0) rfl
  have x1 : W0.cell? ⟨w.heap.size, 1, none⟩ = _ := hX.cell (i := 1) rfl
  have x2 : W0.cell? ⟨w.heap.size, 2, none⟩ = _ := hX.cell (i := 2) rfl
  have x3 : W0.cell? ⟨w.heap.size, 3, none⟩ = _ := hX.cell (i := 3) rfl
  have x4 : W0.cell? ⟨w.heap.size, 4, none⟩ = _ := hX.cell (i := 4) rfl
  have x5 : W0.cell? ⟨w.heap.size, 5, none⟩ = _ := hX.cell (i := 5) rfl
  have x6 : W0.cell? ⟨w.heap.size, 6, none⟩ = _ := hX.cell (i := 6) rfl
  have x7 : W0.cell? ⟨w.heap.size, 7, none⟩ = _ := hX.cell (i := 7) rfl
  go_wp2_with fail
  refine (CC.out _ hL0).mono ?_; rintro r W1 ⟨A2, c2, B2, d2, D2, e2, rfl, hO, hb1⟩
  have hal := ext_alloc W1 (.cells #[.slice A2 n c2, .slice B2 m d2, .int .i64 l.office, .int .i64 l.bank, .int .i64 l.begun, .int .i64 l.inn, .int .i64 l.out, .slice D2 q e2] 26)
  have hBk := Blk.new W1 26 [.slice A2 n c2, .slice B2 m d2, .int .i64 l.office, .int .i64 l.bank, .int .i64 l.begun, .int .i64 l.inn, .int .i64 l.out, .slice D2 q e2]
  have hM := hO.box hal (Nat.le_refl _) hb1.size hBk
  have hY1 := (hY.ext hb1).ext hal
  have hR1 := (hR.ext hb1).ext hal
  have hbw := ext_trans (ext_trans hb0 hb1) hal
  have hPl := hb1.size
  clear x0 x1 x2 x3 x4 x5 x6 x7 hX hY hR hL0 hO hb1 hBk CC
  go_upto_region 2 with fail
  change RefM _ (W1.alloc (.cells #[.slice A2 n c2, .slice B2 m d2, .int .i64 l.office, .int .i64 l.bank, .int .i64 l.begun, .int .i64 l.inn, .int .i64 l.out, .slice D2 q e2] 26)) _ _ _ _ _ _ _ _ _ _ _ at hM
  clear hal
  generalize W1.heap.size = P at *
  generalize W1.alloc (.cells #[.slice A2 n c2, .slice B2 m d2, .int .i64 l.office, .int .i64 l.bank, .int .i64 l.begun, .int .i64 l.inn, .int .i64 l.out, .slice D2 q e2] 26) = W2 at *
  generalize hbs : W0.heap.size = base at *
  have hmon := Hmon.out
  have C1 := Lib.hid (fun k => (show Calls Tryz.prog 35 #[.pointer (some ⟨P, 0, none⟩), .agg #[.int .u8 k, .int .i64 a1, .int .i64 a2, .int .i64 a3, .int .i64 a4, .int .i64 a5]] W2 _ from counter_any hM hmon ⟨k, a1, a2, a3, a4, a5⟩))
  have C4 := Lib.hid (fun k => (show Calls Tryz.prog 36 #[.pointer (some ⟨P, 0, none⟩), .agg #[.int .u8 k, .int .i64 a1, .int .i64 a2, .int .i64 a3, .int .i64 a4, .int .i64 a5]] W2 _ from pack_any hM hmon ⟨k, a1, a2, a3, a4, a5⟩))
  have C5 := Lib.hid (show Calls Tryz.prog 37 #[.pointer (some ⟨P, 0, none⟩), .agg #[.int .u8 5, .int .i64 a1, .int .i64 a2, .int .i64 a3, .int .i64 a4, .int .i64 a5]] W2 _ from way5_any hM hmon hq a1 a2 a3 a4 a5)
  have C6 := Lib.hid (show Calls Tryz.prog 37 #[.pointer (some ⟨P, 0, none⟩), .agg #[.int .u8 6, .int .i64 a1, .int .i64 a2, .int .i64 a3, .int .i64 a4, .int .i64 a5]] W2 _ from way6_any hM hmon hq a1 a2 a3 a4 a5)
  have C7 := Lib.hid (fun k => (show Calls Tryz.prog 38 #[.pointer (some ⟨P, 0, none⟩), .agg #[.int .u8 k, .int .i64 a1, .int .i64 a2, .int .i64 a3, .int .i64 a4, .int .i64 a5]] W2 _ from bank_any hM hmon ⟨k, a1, a2, a3, a4, a5⟩))
  clear hmon hM
  have y0 : W2.cell? ⟨w.heap.size + 1, 0, none⟩ = _ := hY1.cell (i := 0) rfl
  go_upto_block 0 with fail
  go_cut [7] (fun z W => ∃ cd l1, z = .int .i64 cd ∧ refStep l ⟨a0, a1, a2, a3, a4, a5⟩ = (l1, cd) ∧ (cd = 0 → ∃ A3 n3 c3 B3 m3 d3 D3 q3 e3, RefM base W P A3 n3 c3 B3 m3 d3 D3 q3 e3 l1) ∧ Below base W2 W)
  case first =>
    clear Hdo
    have y1 : W2.cell? ⟨w.heap.size + 1, 1, none⟩ = _ := hY1.cell (i := 1) rfl
    have y2 : W2.cell? ⟨w.heap.size + 1, 2, none⟩ = _ := hY1.cell (i := 2) rfl
    have y3 : W2.cell? ⟨w.heap.size + 1, 3, none⟩ = _ := hY1.cell (i := 3) rfl
    have y4 : W2.cell? ⟨w.heap.size + 1, 4, none⟩ = _ := hY1.cell (i := 4) rfl
    have y5 : W2.cell? ⟨w.heap.size + 1, 5, none⟩ = _ := hY1.cell (i := 5) rfl
    by_cases k1 : a0 = 1
    · subst k1
      have CX := C1.out 1
      have hst : refStep l ⟨1, a1, a2, a3, a4, a5⟩ = counterR l ⟨1, a1, a2, a3, a4, a5⟩ := by simp [refStep]
      obtain ⟨x, hx⟩ : ∃ x, counterR l ⟨1, a1, a2, a3, a4, a5⟩ = x := ⟨_, rfl⟩
      obtain ⟨l1, cd⟩ := x
      rw [hx] at CX hst
      have Hst := Lib.hid hst
      have CY := Lib.hid CX
      clear CX hst hx C1 C4 C5 C6 C7
      go_wp2_with fail
      refine CY.out.mono ?_; rintro r W3 ⟨rfl, hb, hm⟩
      go_wp2
      go_meet
      case rel => exact ⟨_, _, rfl, Hst.out, fun hz => ⟨_, _, _, _, _, _, _, _, _, hm hz⟩, hb⟩
    have e1 : (a0 == 1) = false := by simpa using k1
    by_cases k2 : a0 = 2
    · subst k2
      have CX := C1.out 2
      have hst : refStep l ⟨2, a1, a2, a3, a4, a5⟩ = counterR l ⟨2, a1, a2, a3, a4, a5⟩ := by simp [refStep]
      obtain ⟨x, hx⟩ : ∃ x, counterR l ⟨2, a1, a2, a3, a4, a5⟩ = x := ⟨_, rfl⟩
      obtain ⟨l1, cd⟩ := x
      rw [hx] at CX hst
      have Hst := Lib.hid hst
      have CY := Lib.hid CX
      clear CX hst hx C1 C4 C5 C6 C7
      go_wp2_with fail
      refine CY.out.mono ?_; rintro r W3 ⟨rfl, hb, hm⟩
      go_wp2
      go_meet
      case rel => exact ⟨_, _, rfl, Hst.out, fun hz => ⟨_, _, _, _, _, _, _, _, _, hm hz⟩, hb⟩
    have e2 : (a0 == 2) = false := by simpa using k2
    by_cases k3 : a0 = 3
    · subst k3
      have CX := C1.out 3
      have hst : refStep l ⟨3, a1, a2, a3, a4, a5⟩ = counterR l ⟨3, a1, a2, a3, a4, a5⟩ := by simp [refStep]
      obtain ⟨x, hx⟩ : ∃ x, counterR l ⟨3, a1, a2, a3, a4, a5⟩ = x := ⟨_, rfl⟩
      obtain ⟨l1, cd⟩ := x
      rw [hx] at CX hst
      have Hst := Lib.hid hst
      have CY := Lib.hid CX
      clear CX hst hx C1 C4 C5 C6 C7
      go_wp2_with fail
      refine CY.out.mono ?_; rintro r W3 ⟨rfl, hb, hm⟩
      go_wp2
      go_meet
      case rel => exact ⟨_, _, rfl, Hst.out, fun hz => ⟨_, _, _, _, _, _, _, _, _, hm hz⟩, hb⟩
    have e3 : (a0 == 3) = false := by simpa using k3
    by_cases k4 : a0 = 4
    · subst k4
      have CX := C4.out 4
      have hst : refStep l ⟨4, a1, a2, a3, a4, a5⟩ = packR l ⟨4, a1, a2, a3, a4, a5⟩ := by simp [refStep]
      obtain ⟨x, hx⟩ : ∃ x, packR l ⟨4, a1, a2, a3, a4, a5⟩ = x := ⟨_, rfl⟩
      obtain ⟨l1, cd⟩ := x
      rw [hx] at CX hst
      have Hst := Lib.hid hst
      have CY := Lib.hid CX
      clear CX hst hx C1 C4 C5 C6 C7
      go_wp2_with fail
      refine CY.out.mono ?_; rintro r W3 ⟨rfl, hb, hm⟩
      go_wp2
      go_meet
      case rel => exact ⟨_, _, rfl, Hst.out, fun hz => by obtain ⟨_, _, _, h⟩ := hm hz; exact ⟨_, _, _, _, _, _, _, _, _, h⟩, hb⟩
    have e4 : (a0 == 4) = false := by simpa using k4
    by_cases k5 : a0 = 5
    · subst k5
      have CX := C5.out
      have hst : refStep l ⟨5, a1, a2, a3, a4, a5⟩ = touchR l a2 a3 a4 := by simp [refStep]
      obtain ⟨x, hx⟩ : ∃ x, touchR l a2 a3 a4 = x := ⟨_, rfl⟩
      obtain ⟨l1, cd⟩ := x
      rw [hx] at CX hst
      have Hst := Lib.hid hst
      have CY := Lib.hid CX
      clear CX hst hx C1 C4 C5 C6 C7
      go_wp2_with fail
      refine CY.out.mono ?_; rintro r W3 ⟨rfl, hb, hm⟩
      go_wp2
      go_meet
      case rel => exact ⟨_, _, rfl, Hst.out, fun hz => by obtain ⟨_, _, _, h⟩ := hm hz; exact ⟨_, _, _, _, _, _, _, _, _, h⟩, hb⟩
    have e5 : (a0 == 5) = false := by simpa using k5
    by_cases k6 : a0 = 6
    · subst k6
      have CX := C6.out
      have hst : refStep l ⟨6, a1, a2, a3, a4, a5⟩ = openR l a2 a3 a4 := by simp [refStep]
      obtain ⟨x, hx⟩ : ∃ x, openR l a2 a3 a4 = x := ⟨_, rfl⟩
      obtain ⟨l1, cd⟩ := x
      rw [hx] at CX hst
      have Hst := Lib.hid hst
      have CY := Lib.hid CX
      clear CX hst hx C1 C4 C5 C6 C7
      go_wp2_with fail
      refine CY.out.mono ?_; rintro r W3 ⟨rfl, hb, hm⟩
      go_wp2
      go_meet
      case rel => exact ⟨_, _, rfl, Hst.out, fun hz => by obtain ⟨_, _, _, h⟩ := hm hz; exact ⟨_, _, _, _, _, _, _, _, _, h⟩, hb⟩
    have e6 : (a0 == 6) = false := by simpa using k6
    by_cases k7 : a0 = 7
    · subst k7
      have CX := C7.out 7
      have hst : refStep l ⟨7, a1, a2, a3, a4, a5⟩ = bankR l ⟨7, a1, a2, a3, a4, a5⟩ := by simp [refStep]
      obtain ⟨x, hx⟩ : ∃ x, bankR l ⟨7, a1, a2, a3, a4, a5⟩ = x := ⟨_, rfl⟩
      obtain ⟨l1, cd⟩ := x
      rw [hx] at CX hst
      have Hst := Lib.hid hst
      have CY := Lib.hid CX
      clear CX hst hx C1 C4 C5 C6 C7
      go_wp2_with fail
      refine CY.out.mono ?_; rintro r W3 ⟨rfl, hb, hm⟩
      go_wp2
      go_meet
      case rel => exact ⟨_, _, rfl, Hst.out, fun hz => ⟨_, _, _, _, _, _, _, _, _, hm hz⟩, hb⟩
    have e7 : (a0 == 7) = false := by simpa using k7
    by_cases k8 : a0 = 8
    · subst k8
      have CX := C7.out 8
      have hst : refStep l ⟨8, a1, a2, a3, a4, a5⟩ = bankR l ⟨8, a1, a2, a3, a4, a5⟩ := by simp [refStep]
      obtain ⟨x, hx⟩ : ∃ x, bankR l ⟨8, a1, a2, a3, a4, a5⟩ = x := ⟨_, rfl⟩
      obtain ⟨l1, cd⟩ := x
      rw [hx] at CX hst
      have Hst := Lib.hid hst
      have CY := Lib.hid CX
      clear CX hst hx C1 C4 C5 C6 C7
      go_wp2_with fail
      refine CY.out.mono ?_; rintro r W3 ⟨rfl, hb, hm⟩
      go_wp2
      go_meet
      case rel => exact ⟨_, _, rfl, Hst.out, fun hz => ⟨_, _, _, _, _, _, _, _, _, hm hz⟩, hb⟩
    have e8 : (a0 == 8) = false := by simpa using k8
    have Hst := Lib.hid (show refStep l ⟨a0, a1, a2, a3, a4, a5⟩ = (l, 1) by simp [refStep, k1, k2, k3, k4, k5, k6, k7, k8])
    clear k1 k2 k3 k4 k5 k6 k7 k8 C1 C4 C5 C6 C7
    go_wp2
    go_meet
    case rel => exact ⟨_, _, rfl, Hst.out, fun hz => absurd hz (by decide), Below.refl _ _⟩
  case rest =>
  obtain ⟨cd, l1, rfl, hst, hm, hbW⟩ := hcut
  generalize wc = W3 at *
  have hres : res = refEnd (l1, cd) := by rw [Hdo.out, hst]
  have Hres := Lib.hid hres
  have hbw3 := hbw.trans (hbW.mono (by omega))
  have hR3 := hR1.under hbW (by omega)
  clear hst hres Hdo C1 C4 C5 C6 C7 y0 hY1 hR1 hbW hbw
  by_cases hcd : cd = 0
  rotate_left
  · have hce : (cd == 0) = false := by simpa using hcd
    have HY := Lib.hid (show res = (Led.zero, cd) by rw [Hres.out]; exact end_bad _ _ hcd)
    clear Hres hm
    have y0 : W3.cell? ⟨w.heap.size + 2, 0, none⟩ = _ := hR3.cell (i := 0) rfl
    have y1 : W3.cell? ⟨w.heap.size + 2, 1, none⟩ = _ := hR3.cell (i := 1) rfl
    have y2 : W3.cell? ⟨w.heap.size + 2, 2, none⟩ = _ := hR3.cell (i := 2) rfl
    have y3 : W3.cell? ⟨w.heap.size + 2, 3, none⟩ = _ := hR3.cell (i := 3) rfl
    have y4 : W3.cell? ⟨w.heap.size + 2, 4, none⟩ = _ := hR3.cell (i := 4) rfl
    have y5 : W3.cell? ⟨w.heap.size + 2, 5, none⟩ = _ := hR3.cell (i := 5) rfl
    have y6 : W3.cell? ⟨w.heap.size + 2, 6, none⟩ = _ := hR3.cell (i := 6) rfl
    have y7 : W3.cell? ⟨w.heap.size + 2, 7, none⟩ = _ := hR3.cell (i := 7) rfl
    have f0 := hR3.free 0
    have f1 := hR3.free 1
    have f2 := hR3.free 2
    have f3 := hR3.free 3
    have f4 := hR3.free 4
    have f5 := hR3.free 5
    have f6 := hR3.free 6
    have f7 := hR3.free 7
    go_wp2
    generalize hWf : World.setCell _ _ (Value.slice none 0 0) = Wf
    have hRf := hR3.put_eq [.slice none 0 0, .slice none 0 0, .int .i64 0, .int .i64 0, .int .i64 0, .int .i64 0, .int .i64 0, .slice none 0 0] hWf rfl
    have hbf : Dr.Bel [w.heap.size + 2] W3 Wf := bel_put_eq [.slice none 0 0, .slice none 0 0, .int .i64 0, .int .i64 0, .int .i64 0, .int .i64 0, .int .i64 0, .slice none 0 0] hWf
    clear hWf y0 f0 y1 f1 y2 f2 y3 f3 y4 f4 y5 f5 y6 f6 y7 f7
    have z0 : Wf.cell? ⟨w.heap.size + 2, 0, none⟩ = _ := hRf.cell (i := 0) rfl
    have z1 : Wf.cell? ⟨w.heap.size + 2, 1, none⟩ = _ := hRf.cell (i := 1) rfl
    have z2 : Wf.cell? ⟨w.heap.size + 2, 2, none⟩ = _ := hRf.cell (i := 2) rfl
    have z3 : Wf.cell? ⟨w.heap.size + 2, 3, none⟩ = _ := hRf.cell (i := 3) rfl
    have z4 : Wf.cell? ⟨w.heap.size + 2, 4, none⟩ = _ := hRf.cell (i := 4) rfl
    have z5 : Wf.cell? ⟨w.heap.size + 2, 5, none⟩ = _ := hRf.cell (i := 5) rfl
    have z6 : Wf.cell? ⟨w.heap.size + 2, 6, none⟩ = _ := hRf.cell (i := 6) rfl
    have z7 : Wf.cell? ⟨w.heap.size + 2, 7, none⟩ = _ := hRf.cell (i := 7) rfl
    refine bodyPost_ret (v := .tuple #[.agg #[.slice none 0 0, .slice none 0 0, .int .i64 0, .int .i64 0, .int .i64 0, .int .i64 0, .int .i64 0, .slice none 0 0], .int .i64 cd]) (by simp [results, Tryz.results17, go_sem, z0, z1, z2, z3, z4, z5, z6, z7]) rfl ?_
    exact ⟨_, by rw [HY.out], by rw [HY.out]; exact lz_fr _ _, hbw3.trans (hbf.old (n := w.heap.size) hbw3.size (by simp))⟩
  subst hcd
  obtain ⟨A3, n3, c3, B3, m3, d3, D3, q3, e3, hM⟩ := hm rfl
  clear hm
  have hB := hM.blk
  unfold rlC at hB
  have CA := Lib.hid (above_any l1 A3 n3 c3 B3 m3 d3 D3 q3 e3 W3 hM.hn hM.n9 hM.led.a)
  unfold ledV at CA
  have p0 : W3.cell? ⟨P, 0, none⟩ = _ := hB.cell (i := 0) rfl
  have p1 : W3.cell? ⟨P, 1, none⟩ = _ := hB.cell (i := 1) rfl
  have p2 : W3.cell? ⟨P, 2, none⟩ = _ := hB.cell (i := 2) rfl
  have p3 : W3.cell? ⟨P, 3, none⟩ = _ := hB.cell (i := 3) rfl
  have p4 : W3.cell? ⟨P, 4, none⟩ = _ := hB.cell (i := 4) rfl
  have p5 : W3.cell? ⟨P, 5, none⟩ = _ := hB.cell (i := 5) rfl
  have p6 : W3.cell? ⟨P, 6, none⟩ = _ := hB.cell (i := 6) rfl
  have p7 : W3.cell? ⟨P, 7, none⟩ = _ := hB.cell (i := 7) rfl
  go_upto_region 16 with fail
  go_wp2_with fail
  obtain ⟨ac, hac⟩ : ∃ x : Int, (if l1.lowB then 0 else 3) = x := ⟨_, rfl⟩
  rw [hac] at CA
  have Hac := Lib.hid hac
  clear hac
  refine CA.out.mono ?_; rintro r W4 ⟨rfl, hb4⟩
  have hM4 := hM.ext hb4
  have hR4 := hR3.ext hb4
  have hbw4 := hbw3.trans (hb4.mono hbw3.size)
  clear hM hR3 hbw3 hb4 hB CA p0 p1 p2 p3 p4 p5 p6 p7
  cases hlow : l1.lowB
  · obtain rfl : ac = 3 := by have := Hac.out; rw [hlow] at this; simpa using this.symm
    have HY := Lib.hid (show res = (Led.zero, 3) by rw [Hres.out]; exact end_high _ hlow)
    clear Hres Hac hM4
    have y0 : W4.cell? ⟨w.heap.size + 2, 0, none⟩ = _ := hR4.cell (i := 0) rfl
    have y1 : W4.cell? ⟨w.heap.size + 2, 1, none⟩ = _ := hR4.cell (i := 1) rfl
    have y2 : W4.cell? ⟨w.heap.size + 2, 2, none⟩ = _ := hR4.cell (i := 2) rfl
    have y3 : W4.cell? ⟨w.heap.size + 2, 3, none⟩ = _ := hR4.cell (i := 3) rfl
    have y4 : W4.cell? ⟨w.heap.size + 2, 4, none⟩ = _ := hR4.cell (i := 4) rfl
    have y5 : W4.cell? ⟨w.heap.size + 2, 5, none⟩ = _ := hR4.cell (i := 5) rfl
    have y6 : W4.cell? ⟨w.heap.size + 2, 6, none⟩ = _ := hR4.cell (i := 6) rfl
    have y7 : W4.cell? ⟨w.heap.size + 2, 7, none⟩ = _ := hR4.cell (i := 7) rfl
    have f0 := hR4.free 0
    have f1 := hR4.free 1
    have f2 := hR4.free 2
    have f3 := hR4.free 3
    have f4 := hR4.free 4
    have f5 := hR4.free 5
    have f6 := hR4.free 6
    have f7 := hR4.free 7
    go_wp2
    generalize hWf : World.setCell _ _ (Value.slice none 0 0) = Wf
    have hRf := hR4.put_eq [.slice none 0 0, .slice none 0 0, .int .i64 0, .int .i64 0, .int .i64 0, .int .i64 0, .int .i64 0, .slice none 0 0] hWf rfl
    have hbf : Dr.Bel [w.heap.size + 2] W4 Wf := bel_put_eq [.slice none 0 0, .slice none 0 0, .int .i64 0, .int .i64 0, .int .i64 0, .int .i64 0, .int .i64 0, .slice none 0 0] hWf
    clear hWf y0 f0 y1 f1 y2 f2 y3 f3 y4 f4 y5 f5 y6 f6 y7 f7
    have z0 : Wf.cell? ⟨w.heap.size + 2, 0, none⟩ = _ := hRf.cell (i := 0) rfl
    have z1 : Wf.cell? ⟨w.heap.size + 2, 1, none⟩ = _ := hRf.cell (i := 1) rfl
    have z2 : Wf.cell? ⟨w.heap.size + 2, 2, none⟩ = _ := hRf.cell (i := 2) rfl
    have z3 : Wf.cell? ⟨w.heap.size + 2, 3, none⟩ = _ := hRf.cell (i := 3) rfl
    have z4 : Wf.cell? ⟨w.heap.size + 2, 4, none⟩ = _ := hRf.cell (i := 4) rfl
    have z5 : Wf.cell? ⟨w.heap.size + 2, 5, none⟩ = _ := hRf.cell (i := 5) rfl
    have z6 : Wf.cell? ⟨w.heap.size + 2, 6, none⟩ = _ := hRf.cell (i := 6) rfl
    have z7 : Wf.cell? ⟨w.heap.size + 2, 7, none⟩ = _ := hRf.cell (i := 7) rfl
    refine bodyPost_ret (v := .tuple #[.agg #[.slice none 0 0, .slice none 0 0, .int .i64 0, .int .i64 0, .int .i64 0, .int .i64 0, .int .i64 0, .slice none 0 0], .int .i64 3]) (by simp [results, Tryz.results17, go_sem, z0, z1, z2, z3, z4, z5, z6, z7]) rfl ?_
    exact ⟨_, by rw [HY.out], by rw [HY.out]; exact lz_fr _ _, hbw4.trans (hbf.old (n := w.heap.size) hbw4.size (by simp))⟩
  · obtain rfl : ac = 0 := by have := Hac.out; rw [hlow] at this; simpa using this.symm
    have HY := Lib.hid (show res = (l1, 0) by rw [Hres.out]; exact end_ok _ hlow)
    clear Hres Hac
    have hB := hM4.blk
    unfold rlC at hB
    have p0 : W4.cell? ⟨P, 0, none⟩ = _ := hB.cell (i := 0) rfl
    have p1 : W4.cell? ⟨P, 1, none⟩ = _ := hB.cell (i := 1) rfl
    have p2 : W4.cell? ⟨P, 2, none⟩ = _ := hB.cell (i := 2) rfl
    have p3 : W4.cell? ⟨P, 3, none⟩ = _ := hB.cell (i := 3) rfl
    have p4 : W4.cell? ⟨P, 4, none⟩ = _ := hB.cell (i := 4) rfl
    have p5 : W4.cell? ⟨P, 5, none⟩ = _ := hB.cell (i := 5) rfl
    have p6 : W4.cell? ⟨P, 6, none⟩ = _ := hB.cell (i := 6) rfl
    have p7 : W4.cell? ⟨P, 7, none⟩ = _ := hB.cell (i := 7) rfl
    have y0 : W4.cell? ⟨w.heap.size + 2, 0, none⟩ = _ := hR4.cell (i := 0) rfl
    have y1 : W4.cell? ⟨w.heap.size + 2, 1, none⟩ = _ := hR4.cell (i := 1) rfl
    have y2 : W4.cell? ⟨w.heap.size + 2, 2, none⟩ = _ := hR4.cell (i := 2) rfl
    have y3 : W4.cell? ⟨w.heap.size + 2, 3, none⟩ = _ := hR4.cell (i := 3) rfl
    have y4 : W4.cell? ⟨w.heap.size + 2, 4, none⟩ = _ := hR4.cell (i := 4) rfl
    have y5 : W4.cell? ⟨w.heap.size + 2, 5, none⟩ = _ := hR4.cell (i := 5) rfl
    have y6 : W4.cell? ⟨w.heap.size + 2, 6, none⟩ = _ := hR4.cell (i := 6) rfl
    have y7 : W4.cell? ⟨w.heap.size + 2, 7, none⟩ = _ := hR4.cell (i := 7) rfl
    have f0 := hR4.free 0
    have f1 := hR4.free 1
    have f2 := hR4.free 2
    have f3 := hR4.free 3
    have f4 := hR4.free 4
    have f5 := hR4.free 5
    have f6 := hR4.free 6
    have f7 := hR4.free 7
    go_wp2
    generalize hWf : World.setCell _ _ (Value.slice D3 q3 e3) = Wf
    have hRf := hR4.put_eq [.slice A3 n3 c3, .slice B3 m3 d3, .int .i64 l1.office, .int .i64 l1.bank, .int .i64 l1.begun, .int .i64 l1.inn, .int .i64 l1.out, .slice D3 q3 e3] hWf rfl
    have hbf : Dr.Bel [w.heap.size + 2] W4 Wf := bel_put_eq [.slice A3 n3 c3, .slice B3 m3 d3, .int .i64 l1.office, .int .i64 l1.bank, .int .i64 l1.begun, .int .i64 l1.inn, .int .i64 l1.out, .slice D3 q3 e3] hWf
    clear hWf y0 f0 p0 y1 f1 p1 y2 f2 p2 y3 f3 p3 y4 f4 p4 y5 f5 p5 y6 f6 p6 y7 f7 p7
    have z0 : Wf.cell? ⟨w.heap.size + 2, 0, none⟩ = _ := hRf.cell (i := 0) rfl
    have z1 : Wf.cell? ⟨w.heap.size + 2, 1, none⟩ = _ := hRf.cell (i := 1) rfl
    have z2 : Wf.cell? ⟨w.heap.size + 2, 2, none⟩ = _ := hRf.cell (i := 2) rfl
    have z3 : Wf.cell? ⟨w.heap.size + 2, 3, none⟩ = _ := hRf.cell (i := 3) rfl
    have z4 : Wf.cell? ⟨w.heap.size + 2, 4, none⟩ = _ := hRf.cell (i := 4) rfl
    have z5 : Wf.cell? ⟨w.heap.size + 2, 5, none⟩ = _ := hRf.cell (i := 5) rfl
    have z6 : Wf.cell? ⟨w.heap.size + 2, 6, none⟩ = _ := hRf.cell (i := 6) rfl
    have z7 : Wf.cell? ⟨w.heap.size + 2, 7, none⟩ = _ := hRf.cell (i := 7) rfl
    have hA3 := hM4.ow.block_ge rfl
    have hB3 := hM4.ob.block_ge rfl
    have hD3 := hM4.od.block_ge rfl
    have hsf := hbf.size
    have hLd := hM4.led
    refine bodyPost_ret (v := .tuple #[.agg #[.slice A3 n3 c3, .slice B3 m3 d3, .int .i64 l1.office, .int .i64 l1.bank, .int .i64 l1.begun, .int .i64 l1.inn, .int .i64 l1.out, .slice D3 q3 e3], .int .i64 0]) (by simp [results, Tryz.results17, go_sem, z0, z1, z2, z3, z4, z5, z6, z7]) rfl ?_
    refine ⟨_, by rw [HY.out], ?_, hbw4.trans (hbf.old (n := w.heap.size) hbw4.size (by simp))⟩
    rw [HY.out]
    exact ⟨A3, n3, c3, B3, m3, d3, D3, q3, e3, rfl, ⟨⟨hLd.hn, hLd.hm, hLd.hq, hLd.n9, hLd.m9, hLd.q9, cells_bel hLd.a hbf (fun k hk hm => by have := hA3 k hk; simp at hm; omega), cells_bel hLd.b hbf (fun k hk hm => by have := hB3 k hk; simp at hm; omega), cells_bel hLd.d hbf (fun k hk hm => by have := hD3 k hk; simp at hm; omega)⟩, fun k hk => by have := hA3 k hk; omega, fun k hk => by have := hB3 k hk; omega, fun k hk => by have := hD3 k hk; omega⟩⟩
end Go.Proofs.YtnjdlhhgnamigaaGreat

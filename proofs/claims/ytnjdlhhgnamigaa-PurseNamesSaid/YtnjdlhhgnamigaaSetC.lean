/- Walk: a week for the program. -/
import Derived.Test.YtnjdlhhgnamigaaSetB
namespace Go.Dr
open Go.RowKit Go.Bs
theorem Bel.then_below {M : List Nat} {a b c : World} (h : Bel M a b) (k : Below a.heap.size b c) : Bel M a c :=
  ⟨k.os.trans h.os, k.tape.trans h.tape, k.output.trans h.output, Nat.le_trans h.size k.size, fun i hi hm => (k.block i hi).trans (h.block i hi hm)⟩
theorem Bel.put {M : List Nat} {a b : World} (h : Bel M a b) {p : Addr} (hp : p.block ∈ M) (u : Value) : Bel M a (b.setCell p u) := h.trans (Bel.store hp u)
theorem Bel.old {M : List Nat} {a b : World} {n : Nat} (h : Bel M a b) (hn : n ≤ a.heap.size) (hM : ∀ k ∈ M, n ≤ k) : Below n a b :=
  ⟨h.os, h.tape, h.output, h.size, fun k hk => h.block k (Nat.lt_of_lt_of_le hk hn) (fun hm => by have := hM k hm; omega)⟩
theorem Bel.blk {M : List Nat} {a b : World} (h : Bel M a b) {B T : Nat} {cs : List Value} (hB : Blk a B T cs) (hm : B ∉ M) : Blk b B T cs := (h.block B hB.lt hm).trans hB
end Go.Dr
namespace Go.Proofs.Ytnjdlhhgnamigaa
open Go.RowKit Go.Bs Go.Pu Go.Pl Go.Sort

theorem et33 : ElemT Try.prog 33 58 4 32 := ElemT.mk (z := .agg #[.int .i64 0, .int .i64 0, .int .i64 0, .int .i64 0]) Try.underlying33 (by kernel_rfl) rfl
theorem et34 : ElemT Try.prog 34 125 3 24 := ElemT.mk (z := .agg #[.int .i64 0, .int .i64 0, .int .i64 0]) Try.underlying34 (by kernel_rfl) rfl
theorem cells_bel {α : Type} {w w' : World} {M : List Nat} {A : Option Addr} {sz : Nat} {enc : α → List Value} {l : List α} (h : Cells w A sz enc l) (hb : Dr.Bel M w w') (hA : ∀ k, A.map (·.block) = some k → k ∉ M) : Cells w' A sz enc l := by
  refine h.keep (fun p hp hq => ?_)
  rw [World.cell?_of_block (hb.block p.block hp (hA _ hq))]
theorem fresh_bel {α : Type} {a b c : World} {M : List Nat} {sz : Nat} {enc : α → List Value} {v : Value} {l : List α} (h : FreshL a b sz enc v l) (hb : Dr.Bel M b c) (hM : ∀ k ∈ M, k < a.heap.size) : FreshL a c sz enc v l := by
  obtain ⟨A, q, hv, h1, h2, h3, h4⟩ := h
  exact ⟨A, q, hv, h1, h2, cells_bel h3 hb (fun k hk hm => by have := hM k hm; have := (h4 k hk).1; omega), fun k hk => ⟨(h4 k hk).1, Nat.lt_of_lt_of_le (h4 k hk).2 hb.size⟩⟩
/-- of a new row of one element -/
theorem new_cell {w : World} {T : Nat} {cs : List Value} : ∀ j u, cs[j]? = some u → (w.alloc (.cells cs.toArray T)).cell? ⟨w.heap.size, j, none⟩ = some u := fun _ _ h => (Blk.new w T cs).cell h

set_option maxRecDepth 100000 in
set_option maxHeartbeats 2000000 in
theorem Week_any (wk : Wk) (A B : Option Addr) (n c m d : Nat) (w : World) (hn : wk.ctys.length = n) (hm : wk.ctrs.length = m) (h1 : n ≤ 1000) (h2 : m ≤ 1000) (hA : Cells w A 4 Cty.enc wk.ctys) (hB : Cells w B 3 Ctr.enc wk.ctrs) :
    Calls Try.prog 18 #[wkV A n c wk.premium B m d] w fun e w' => ∃ v u, e = .returned (.agg #[v, .int .i64 wk.premium, u]) ∧ FreshL w w' 4 Cty.enc v wk.ctys ∧ FreshL w w' 3 Ctr.enc u wk.ctrs ∧ Below w.heap.size w w' := by
  unfold wkV
  have hb0 := (ext_alloc w (.cells #[.slice A n c, .int .i64 wk.premium, .slice B m d] 25)).trans ((ext_alloc _ (.cells #[.slice none 0 0, .int .i64 0, .slice none 0 0] 36)).mono (by simp))
  have hX := (Blk.new w 25 [.slice A n c, .int .i64 wk.premium, .slice B m d]).alloc (.cells #[.slice none 0 0, .int .i64 0, .slice none 0 0] 36)
  have hY := Blk.new (w.alloc (.cells #[.slice A n c, .int .i64 wk.premium, .slice B m d] 25)) 36 [.slice none 0 0, .int .i64 0, .slice none 0 0]
  have hsz : ((w.alloc (.cells #[.slice A n c, .int .i64 wk.premium, .slice B m d] 25)).alloc (.cells #[.slice none 0 0, .int .i64 0, .slice none 0 0] 36)).heap.size = w.heap.size + 2 := by simp
  rw [World.size_alloc] at hY
  obtain ⟨ctys, prem, ctrs⟩ := wk
  simp only at hn hm hA hB hb0 hX hY hsz ⊢
  have Hm := Lib.hid hm
  have Hn := Lib.hid hn
  clear hm hn
  go_enter Try.func18, Try.ntmps18
  go_upto_region 1 with fail
  generalize (w.alloc (.cells #[.slice A n c, .int .i64 prem, .slice B m d] 25)).alloc (.cells #[.slice none 0 0, .int .i64 0, .slice none 0 0] 36) = W1 at *
  have x1 : W1.cell? ⟨w.heap.size, 1, none⟩ = _ := hX.cell rfl
  go_upto_region 3 with fail
  have hZ := Blk.new W1 36 [.slice none 0 0, .int .i64 prem, .slice none 0 0]
  have hX0 := hX.alloc (.cells #[.slice none 0 0, .int .i64 prem, .slice none 0 0] 36)
  have hY0 := hY.alloc (.cells #[.slice none 0 0, .int .i64 prem, .slice none 0 0] 36)
  have hb1 := ext_trans hb0 (ext_alloc W1 (.cells #[.slice none 0 0, .int .i64 prem, .slice none 0 0] 36))
  have hs0 : (W1.alloc (.cells #[.slice none 0 0, .int .i64 prem, .slice none 0 0] 36)).heap.size = w.heap.size + 3 := by simp [hsz]
  rw [hsz] at hZ
  clear x1 hX hY hb0 hsz
  change Blk (W1.alloc (.cells #[.slice none 0 0, .int .i64 prem, .slice none 0 0] 36)) _ _ _ at hZ
  generalize W1.alloc (.cells #[.slice none 0 0, .int .i64 prem, .slice none 0 0] 36) = W0 at *
  have hA0 := hA.ext hb1
  have hB0 := hB.ext hb1
  have hAne : ∀ k, A.map (·.block) = some k → 0 < n → k ∉ [w.heap.size + 2] := fun k hk h0 => by
    obtain ⟨b, off, e, hlt, -⟩ := hA.at4 (k := 0) (by rw [Hn.out]; exact h0) rfl
    subst e; simp at hk; subst hk; simp; omega
  have hBne : ∀ k, B.map (·.block) = some k → 0 < m → k ∉ [w.heap.size + 2] := fun k hk h0 => by
    obtain ⟨b, off, e, hlt, -⟩ := hB.at3 (k := 0) (by rw [Hm.out]; exact h0) rfl
    subst e; simp at hk; subst hk; simp; omega
  clear hA
  go_loopw [4, 5] (fun x _ wr => ∃ (k : Nat) (v : Value), x = .int .i64 k ∧ k ≤ n ∧ OwnL wr W0.heap.size 58 4 Cty.enc v (ctys.take k) ∧ Blk wr (w.heap.size + 2) 36 [v, .int .i64 prem, .slice none 0 0] ∧ Dr.Bel [w.heap.size + 2] W0 wr) (fun x _ _ => n - (intOf x).toNat)
  case atStart => exact ⟨0, _, rfl, by omega, OwnL.nil, hZ, Dr.Bel.refl _ _⟩
  case round =>
    obtain ⟨k, v, rfl, hk, hown, hZr, hb⟩ := hrel
    have hX1 := hb.blk hX0 (by simp)
    have x0 : wr.cell? ⟨w.heap.size, 0, none⟩ = _ := hX1.cell rfl
    by_cases hlt : k < n
    · have hlt' : (k : Int) < (n : Int) := by omega
      have hkl : k < ctys.length := by rw [Hn.out]; exact hlt
      obtain ⟨b, off, rfl, -, c0, c1, c2, c3⟩ := (cells_bel hA0 hb (fun q hq => hAne q hq (by omega))).at4 hkl rfl
      have Ht := Lib.hid (List.take_succ_eq_append_getElem hkl)
      generalize ctys[k] = x at *
      obtain ⟨a1, a2, a3, a4⟩ := x
      simp only at c0 c1 c2 c3
      go_upto_region 6 with fail
      have hU := Blk.new wr 133 [.int .i64 a1, .int .i64 a2, .int .i64 a3, .int .i64 a4]
      have hb2 : Dr.Bel [w.heap.size + 2] W0 (wr.alloc (.cells #[.int .i64 a1, .int .i64 a2, .int .i64 a3, .int .i64 a4] 133)) := hb.then_below ((ext_alloc _ _).mono hb.size)
      have ho2 := hown.alloc (.cells #[.int .i64 a1, .int .i64 a2, .int .i64 a3, .int .i64 a4] 133)
      have hZ2 := hZr.alloc (.cells #[.int .i64 a1, .int .i64 a2, .int .i64 a3, .int .i64 a4] 133)
      have hBw := hb.size
      clear hown hZr hX1 x0 c0 c1 c2 c3 hb
      change Blk (wr.alloc (.cells #[.int .i64 a1, .int .i64 a2, .int .i64 a3, .int .i64 a4] 133)) _ _ _ at hU
      generalize hU0 : wr.heap.size = U at *
      generalize wr.alloc (.cells #[.int .i64 a1, .int .i64 a2, .int .i64 a3, .int .i64 a4] 133) = W2 at *
      clear hU0 wr
      have z0 : W2.cell? ⟨w.heap.size + 2, 0, none⟩ = _ := hZ2.cell rfl
      have y0 : W2.cell? ⟨U, 0, none⟩ = _ := hU.cell rfl
      have y1 : W2.cell? ⟨U, 1, none⟩ = _ := hU.cell rfl
      have y2 : W2.cell? ⟨U, 2, none⟩ = _ := hU.cell rfl
      have y3 : W2.cell? ⟨U, 3, none⟩ = _ := hU.cell rfl
      go_wp2_with (at_builtin; refine app1 Cty.enc 33 58 4 32 et33 (by decide) (by decide) cty_len cty_one rfl _ _ rfl W0.heap.size _ (ctys.take k) rfl (ho2.alloc _) W2.heap.size rfl ⟨a1, a2, a3, a4⟩ new_cell (by simp; omega) (by have := hb2.size; simp; omega) ?_; intro g' cap' w' hown' hb3 _ _; have hZ3 := (hZ2.alloc (.cells #[.int .i64 a1, .int .i64 a2, .int .i64 a3, .int .i64 a4] 58)).under hb3 (by omega); have f0 := hZ3.free 0; have z1 : w'.cell? ⟨w.heap.size + 2, 0, none⟩ = _ := hZ3.cell rfl)
      have hb4 := (hb2.then_below ((ext_alloc _ (.cells #[.int .i64 a1, .int .i64 a2, .int .i64 a3, .int .i64 a4] 58)).mono hb2.size)).then_below hb3
      rw [← Ht.out] at hown'
      have hown2 := hown'.setCell (p := ⟨w.heap.size + 2, 0, none⟩) (by simp; omega)
      go_roundw
      case rel => exact ⟨k + 1, _, by go_num, by omega, hown2 _, by simpa using hZ3.set 0 _, hb4.put (by simp) _⟩
      case measure => simp [intOf]; omega
    · obtain rfl : k = n := by omega
      have x2 : wr.cell? ⟨w.heap.size, 2, none⟩ = _ := hX1.cell rfl
      rw [List.take_of_length_le (by rw [Hn.out]; omega)] at hown
      go_wp2
      clear x0 x2
      have hAf : FreshL W0 wr 4 Cty.enc v ctys := FreshL.of_own hown cty_len (Nat.le_refl _)
      have hY2 := hb.blk hY0 (by simp)
      have hsw : w.heap.size + 3 ≤ wr.heap.size := by have := hb.size; omega
      have hb5 : Below w.heap.size w wr := ⟨(hb.os).trans hb1.os, hb.tape.trans hb1.tape, hb.output.trans hb1.output, by omega, fun q hq => (hb.block q (by omega) (by simp; omega)).trans (hb1.block q hq)⟩
      clear hown hb hX0 hY0 hZ hb1 hA0 hB0 hAne
      generalize wr = W3 at *
      go_loopw [6, 7] (fun x _ wr => ∃ (j : Nat) (u : Value), x = .int .i64 j ∧ j ≤ m ∧ OwnL wr W3.heap.size 125 3 Ctr.enc u (ctrs.take j) ∧ Blk wr (w.heap.size + 2) 36 [v, .int .i64 prem, u] ∧ Dr.Bel [w.heap.size + 2] W3 wr) (fun x _ _ => m - (intOf x).toNat)
      case atStart => exact ⟨0, _, rfl, by omega, OwnL.nil, hZr, Dr.Bel.refl _ _⟩
      case round =>
        obtain ⟨j, u, rfl, hj, hown, hZq, hb⟩ := hrel
        have hX3 := hb.blk hX1 (by simp)
        have x2 : wr.cell? ⟨w.heap.size, 2, none⟩ = _ := hX3.cell rfl
        by_cases hlt2 : j < m
        · have hlt' : (j : Int) < (m : Int) := by omega
          have hjl : j < ctrs.length := by rw [Hm.out]; exact hlt2
          obtain ⟨b, off, rfl, -, c0, c1, c2⟩ := (cells_bel (hB.ext hb5) hb (fun q hq => hBne q hq (by omega))).at3 hjl rfl
          have Ht := Lib.hid (List.take_succ_eq_append_getElem hjl)
          generalize ctrs[j] = x at *
          obtain ⟨a1, a2, a3⟩ := x
          simp only at c0 c1 c2
          go_upto_region 11 with fail
          have hU := Blk.new wr 55 [.int .i64 a1, .int .i64 a2, .int .i64 a3]
          have hb2 : Dr.Bel [w.heap.size + 2] W3 (wr.alloc (.cells #[.int .i64 a1, .int .i64 a2, .int .i64 a3] 55)) := hb.then_below ((ext_alloc _ _).mono hb.size)
          have ho2 := hown.alloc (.cells #[.int .i64 a1, .int .i64 a2, .int .i64 a3] 55)
          have hZ2 := hZq.alloc (.cells #[.int .i64 a1, .int .i64 a2, .int .i64 a3] 55)
          have hBw := hb.size
          clear hown hZq hX3 x2 c0 c1 c2 hb
          change Blk (wr.alloc (.cells #[.int .i64 a1, .int .i64 a2, .int .i64 a3] 55)) _ _ _ at hU
          generalize hU0 : wr.heap.size = U at *
          generalize wr.alloc (.cells #[.int .i64 a1, .int .i64 a2, .int .i64 a3] 55) = W2 at *
          clear hU0 wr
          have z0 : W2.cell? ⟨w.heap.size + 2, 2, none⟩ = _ := hZ2.cell rfl
          have y0 : W2.cell? ⟨U, 0, none⟩ = _ := hU.cell rfl
          have y1 : W2.cell? ⟨U, 1, none⟩ = _ := hU.cell rfl
          have y2 : W2.cell? ⟨U, 2, none⟩ = _ := hU.cell rfl
          go_wp2_with (at_builtin; refine app1 Ctr.enc 34 125 3 24 et34 (by decide) (by decide) ctr_len ctr_one rfl _ _ rfl W3.heap.size _ (ctrs.take j) rfl (ho2.alloc _) W2.heap.size rfl ⟨a1, a2, a3⟩ new_cell (by simp; omega) (by have := hb2.size; simp; omega) ?_; intro g' cap' w' hown' hb3 _ _; have hZ3 := (hZ2.alloc (.cells #[.int .i64 a1, .int .i64 a2, .int .i64 a3] 125)).under hb3 (by omega); have f0 := hZ3.free 2; have z1 : w'.cell? ⟨w.heap.size + 2, 2, none⟩ = _ := hZ3.cell rfl)
          have hb4 := (hb2.then_below ((ext_alloc _ (.cells #[.int .i64 a1, .int .i64 a2, .int .i64 a3] 125)).mono hb2.size)).then_below hb3
          rw [← Ht.out] at hown'
          have hown2 := hown'.setCell (p := ⟨w.heap.size + 2, 2, none⟩) (by simp; omega)
          go_roundw
          case rel => exact ⟨j + 1, _, by go_num, by omega, hown2 _, by simpa using hZ3.set 2 _, hb4.put (by simp) _⟩
          case measure => simp [intOf]; omega
        · obtain rfl : j = m := by omega
          rw [List.take_of_length_le (by rw [Hm.out]; omega)] at hown
          have hY3 := hb.blk hY2 (by simp)
          have hBf : FreshL W3 wr 3 Ctr.enc u ctrs := FreshL.of_own hown ctr_len (Nat.le_refl _)
          have hAf2 := fresh_bel hAf hb (by simp; omega)
          have hb6 : Below w.heap.size w wr := hb5.trans (hb.old (by omega) (by simp))
          have hsw2 := hb.size
          obtain ⟨A1, p1, rfl, ha1, ha2, ha3, ha4⟩ := hAf2
          obtain ⟨B1, q1, rfl, hq1, hq2, hq3, hq4⟩ := hBf
          have z0 : wr.cell? ⟨w.heap.size + 2, 0, none⟩ = _ := hZq.cell rfl
          have z1 : wr.cell? ⟨w.heap.size + 2, 1, none⟩ = _ := hZq.cell rfl
          have z2 : wr.cell? ⟨w.heap.size + 2, 2, none⟩ = _ := hZq.cell rfl
          have y0 : wr.cell? ⟨w.heap.size + 1, 0, none⟩ = _ := hY3.cell rfl
          have y1 : wr.cell? ⟨w.heap.size + 1, 1, none⟩ = _ := hY3.cell rfl
          have y2 : wr.cell? ⟨w.heap.size + 1, 2, none⟩ = _ := hY3.cell rfl
          have f0 := hY3.free 0
          have f1 := hY3.free 1
          have f2 := hY3.free 2
          go_wp2
          have hYf := ((hY3.set 0 (.slice A1 ctys.length p1)).set 1 (.int .i64 prem)).set 2 (.slice B1 ctrs.length q1)
          have hbf : Dr.Bel [w.heap.size + 1] wr _ := (((Dr.Bel.refl _ wr).put (p := ⟨w.heap.size + 1, 0, none⟩) (by simp) (.slice A1 ctys.length p1)).put (p := ⟨w.heap.size + 1, 1, none⟩) (by simp) (.int .i64 prem)).put (p := ⟨w.heap.size + 1, 2, none⟩) (by simp) (.slice B1 ctrs.length q1)
          generalize ((wr.setCell ⟨w.heap.size + 1, 0, none⟩ (.slice A1 ctys.length p1)).setCell ⟨w.heap.size + 1, 1, none⟩ (.int .i64 prem)).setCell ⟨w.heap.size + 1, 2, none⟩ (.slice B1 ctrs.length q1) = Wf at *
          have g0 : Wf.cell? ⟨w.heap.size + 1, 0, none⟩ = _ := hYf.cell rfl
          have g1 : Wf.cell? ⟨w.heap.size + 1, 1, none⟩ = _ := hYf.cell rfl
          have g2 : Wf.cell? ⟨w.heap.size + 1, 2, none⟩ = _ := hYf.cell rfl
          refine bodyPost_ret (v := .agg #[.slice A1 ctys.length p1, .int .i64 prem, .slice B1 ctrs.length q1]) (by simp [results, Try.results18, go_sem, g0, g1, g2]) rfl ?_
          have hzf := hbf.size
          refine ⟨_, _, rfl, ⟨A1, p1, rfl, ha1, ha2, cells_bel ha3 hbf (fun k hk => by have := (ha4 k hk).1; simp; omega), fun k hk => by have := ha4 k hk; omega⟩, ⟨B1, q1, rfl, hq1, hq2, cells_bel hq3 hbf (fun k hk => by have := (hq4 k hk).1; simp; omega), fun k hk => by have := hq4 k hk; omega⟩, hb6.trans (hbf.old (by omega) (by simp))⟩
end Go.Proofs.Ytnjdlhhgnamigaa

/- Walk: ref.Without (the reference's show without a person). -/
import Derived.Test.YtcnidhcdkbfpcaaPrlT
namespace Go.Proofs.Ytcnidhcdkbfpcaa
open Go.RowKit Go.Bs Go.Pg Go.Pl Go.Sort
theorem et22 : ElemT Try.prog 22 50 5 56 := ElemT.mk (z := .agg #[.int .i64 0, .int .i64 0, .int .u16 0, .slice none 0 0, .bool false]) Try.underlying22 (by kernel_rfl) rfl
theorem put7g {W : World} {X T : Nat} {c0 c1 c2 c3 c4 c5 c6 : Value} (h : Blk W X T [c0, c1, c2, c3, c4, c5, c6]) (u0 u1 u2 u3 u4 u5 u6 : Value) :
    Blk (((((((W.setCell ⟨X, 0, none⟩ u0).setCell ⟨X, 1, none⟩ u1).setCell ⟨X, 2, none⟩ u2).setCell ⟨X, 3, none⟩ u3).setCell ⟨X, 4, none⟩ u4).setCell ⟨X, 5, none⟩ u5).setCell ⟨X, 6, none⟩ u6) X T [u0, u1, u2, u3, u4, u5, u6] ∧
    (∀ n w, n ≤ X → Below n w W → Below n w (((((((W.setCell ⟨X, 0, none⟩ u0).setCell ⟨X, 1, none⟩ u1).setCell ⟨X, 2, none⟩ u2).setCell ⟨X, 3, none⟩ u3).setCell ⟨X, 4, none⟩ u4).setCell ⟨X, 5, none⟩ u5).setCell ⟨X, 6, none⟩ u6)) :=
  ⟨((((((h.set 0 u0).set 1 u1).set 2 u2).set 3 u3).set 4 u4).set 5 u5).set 6 u6, fun _ _ hn hb => ((((((hb.setCell hn u0).setCell hn u1).setCell hn u2).setCell hn u3).setCell hn u4).setCell hn u5).setCell hn u6⟩
theorem put7og {W : World} {X T : Nat} {c0 c1 c2 c3 c4 c5 c6 : Value} (h : Blk W X T [c0, c1, c2, c3, c4, c5, c6]) (u0 u1 u2 u3 u4 u5 u6 : Value) {α : Type} {bs : Nat} {e : TypeId} {sz : Nat} {enc : α → List Value} {v : Value} {l : List α} (ho : OwnL W bs e sz enc v l) (he : T ≠ e) :
    OwnL (((((((W.setCell ⟨X, 0, none⟩ u0).setCell ⟨X, 1, none⟩ u1).setCell ⟨X, 2, none⟩ u2).setCell ⟨X, 3, none⟩ u3).setCell ⟨X, 4, none⟩ u4).setCell ⟨X, 5, none⟩ u5).setCell ⟨X, 6, none⟩ u6) bs e sz enc v l := by
  have b0 := h.set 0 u0
  have b1 := b0.set 1 u1
  have b2 := b1.set 2 u2
  have b3 := b2.set 3 u3
  have b4 := b3.set 4 u4
  have b5 := b4.set 5 u5
  exact OwnL.othr (OwnL.othr (OwnL.othr (OwnL.othr (OwnL.othr (OwnL.othr (OwnL.othr ho h he 0 u0) b0 he 1 u1) b1 he 2 u2) b2 he 3 u3) b3 he 4 u4) b4 he 5 u5) b5 he 6 u6
/-- what ref.Without returns -/
def RwoR (bs : Nat) (s : Sh) (pn : Nat) (e : Ending) (W : World) : Prop :=
  (∃ i : Nat, s.excep pn = some i ∧ e = .returned (.tuple #[.agg #[.slice none 0 0, .slice none 0 0, .slice none 0 0, .slice none 0 0, .int .i64 0, .int .i64 0, .slice none 0 0], .slice none 0 0, .int .i64 i])) ∨
  (s.excep pn = none ∧ ∃ q vk, e = .returned (.tuple #[shV (s.lessW pn) q, vk, .int .i64 (-1)]) ∧ ShM W (s.lessW pn) q ∧ OwnL W bs 3 1 encI vk (toI (s.keptTo pn s.acts.length)))
set_option maxRecDepth 100000 in
set_option maxHeartbeats 10000000 in
theorem RWithout_any (s : Sh) (p : ShP) (pn : Nat) (w : World) (h : ShM w s p) (hok : s.Ok) (hp : pn < s.rest.length) :
    Calls Try.prog 38 #[shV s p, .int .i64 pn] w fun e w' => RwoR w.heap.size s pn e w' ∧ Below w.heap.size w w' := by
  have n8 := hok.n8
  have r16 := hok.r16
  have b20 := hok.b20
  have hb0 : Below w.heap.size w ((w.alloc (.cells (shC s p).toArray 26)).alloc (.cells zerC.toArray 26)) := ((Below.refl _ _).alloc (Nat.le_refl _) _).alloc (by simp) _
  have hS : Blk ((w.alloc (.cells (shC s p).toArray 26)).alloc (.cells zerC.toArray 26)) w.heap.size 26 (shC s p) := (Blk.new w 26 (shC s p)).alloc _
  have hR : Blk ((w.alloc (.cells (shC s p).toArray 26)).alloc (.cells zerC.toArray 26)) (w.heap.size + 1) 26 zerC := by
    have := Blk.new (w.alloc (.cells (shC s p).toArray 26)) 26 zerC
    simpa using this
  have hz : ((w.alloc (.cells (shC s p).toArray 26)).alloc (.cells zerC.toArray 26)).heap.size = w.heap.size + 2 := by simp
  have Hok := Lib.hid hok
  have HX := Lib.hid (fun i (h1 : s.excep pn = some i) => show ∀ W, RwoR w.heap.size s pn (.returned (.tuple #[.agg #[.slice none 0 0, .slice none 0 0, .slice none 0 0, .slice none 0 0, .int .i64 0, .int .i64 0, .slice none 0 0], .slice none 0 0, .int .i64 (i : Int)])) W from fun W => .inl ⟨i, h1, rfl⟩)
  have HY := Lib.hid (fun (h1 : s.excep pn = none) q vk W h2 h3 => show RwoR w.heap.size s pn (.returned (.tuple #[shV (s.lessW pn) q, vk, .int .i64 (-1)])) W from .inr ⟨h1, q, vk, rfl, h2, h3⟩)
  have Hh := Lib.hid (fun W (hW : Below w.heap.size w W) => h.ext hW)
  have hmk := mk23n s.acts.length (by omega)
  have Hmk := Lib.hid hmk
  clear h hok hmk
  unfold shV at *
  unfold shC at *
  unfold zerC at *
  go_enter Try.func38, Try.ntmps38
  go_upto_region 1 with fail
  change Below w.heap.size w ((w.alloc (.cells #[.slice p.A s.acts.length p.cA, .slice p.R s.rest.length p.cR, .slice p.I s.ins.length p.cI, .slice p.O s.outs.length p.cO, .int .i64 s.cover, .int .i64 s.dull, .slice p.B s.before.length p.cB] 26)).alloc (.cells #[.slice none 0 0, .slice none 0 0, .slice none 0 0, .slice none 0 0, .int .i64 0, .int .i64 0, .slice none 0 0] 26)) at hb0
  change Blk ((w.alloc (.cells #[.slice p.A s.acts.length p.cA, .slice p.R s.rest.length p.cR, .slice p.I s.ins.length p.cI, .slice p.O s.outs.length p.cO, .int .i64 s.cover, .int .i64 s.dull, .slice p.B s.before.length p.cB] 26)).alloc (.cells #[.slice none 0 0, .slice none 0 0, .slice none 0 0, .slice none 0 0, .int .i64 0, .int .i64 0, .slice none 0 0] 26)) _ _ _ at hS
  change Blk ((w.alloc (.cells #[.slice p.A s.acts.length p.cA, .slice p.R s.rest.length p.cR, .slice p.I s.ins.length p.cI, .slice p.O s.outs.length p.cO, .int .i64 s.cover, .int .i64 s.dull, .slice p.B s.before.length p.cB] 26)).alloc (.cells #[.slice none 0 0, .slice none 0 0, .slice none 0 0, .slice none 0 0, .int .i64 0, .int .i64 0, .slice none 0 0] 26)) _ _ _ at hR
  change ((w.alloc (.cells #[.slice p.A s.acts.length p.cA, .slice p.R s.rest.length p.cR, .slice p.I s.ins.length p.cI, .slice p.O s.outs.length p.cO, .int .i64 s.cover, .int .i64 s.dull, .slice p.B s.before.length p.cB] 26)).alloc (.cells #[.slice none 0 0, .slice none 0 0, .slice none 0 0, .slice none 0 0, .int .i64 0, .int .i64 0, .slice none 0 0] 26)).heap.size = _ at hz
  generalize ((w.alloc (.cells #[.slice p.A s.acts.length p.cA, .slice p.R s.rest.length p.cR, .slice p.I s.ins.length p.cI, .slice p.O s.outs.length p.cO, .int .i64 s.cover, .int .i64 s.dull, .slice p.B s.before.length p.cB] 26)).alloc (.cells #[.slice none 0 0, .slice none 0 0, .slice none 0 0, .slice none 0 0, .int .i64 0, .int .i64 0, .slice none 0 0] 26)) = W0 at *
  have x0 : W0.cell? ⟨w.heap.size, 0, none⟩ = _ := hS.cell (i := 0) rfl
  have x1 : W0.cell? ⟨w.heap.size, 1, none⟩ = _ := hS.cell (i := 1) rfl
  have x2 : W0.cell? ⟨w.heap.size, 2, none⟩ = _ := hS.cell (i := 2) rfl
  have x3 : W0.cell? ⟨w.heap.size, 3, none⟩ = _ := hS.cell (i := 3) rfl
  have x4 : W0.cell? ⟨w.heap.size, 4, none⟩ = _ := hS.cell (i := 4) rfl
  have x5 : W0.cell? ⟨w.heap.size, 5, none⟩ = _ := hS.cell (i := 5) rfl
  have x6 : W0.cell? ⟨w.heap.size, 6, none⟩ = _ := hS.cell (i := 6) rfl
  go_upto_region 2 with fail
  have hT : Blk (W0.alloc (.cells #[.slice p.A s.acts.length p.cA, .slice p.R s.rest.length p.cR, .slice p.I s.ins.length p.cI, .slice p.O s.outs.length p.cO, .int .i64 s.cover, .int .i64 s.dull, .slice p.B s.before.length p.cB] 26)) (w.heap.size + 2) 26 (shC s p) := by
    have := Blk.new W0 26 (shC s p)
    rwa [hz] at this
  have hal := ext_alloc W0 (.cells #[.slice p.A s.acts.length p.cA, .slice p.R s.rest.length p.cR, .slice p.I s.ins.length p.cI, .slice p.O s.outs.length p.cO, .int .i64 s.cover, .int .i64 s.dull, .slice p.B s.before.length p.cB] 26)
  have hb1 := ext_trans hb0 hal
  have hS1 := hS.ext hal
  have hR1 := hR.ext hal
  unfold shC at hT
  clear hal hb0 hS hR hz x0 x1 x2 x3 x4 x5 x6
  generalize W0.alloc (.cells #[.slice p.A s.acts.length p.cA, .slice p.R s.rest.length p.cR, .slice p.I s.ins.length p.cI, .slice p.O s.outs.length p.cO, .int .i64 s.cover, .int .i64 s.dull, .slice p.B s.before.length p.cB] 26) = W1 at *
  have y0 : W1.cell? ⟨w.heap.size + 2, 0, none⟩ = _ := hT.cell (i := 0) rfl
  have y6 : W1.cell? ⟨w.heap.size + 2, 6, none⟩ = _ := hT.cell (i := 6) rfl
  have f0 := hT.free 0
  have f6 := hT.free 6
  go_upto_region 3 with fail
  have hT2 := (hT.set 0 (.slice none 0 0)).set 6 (.slice none 0 0)
  have hS2 := (hS1.other (p := ⟨w.heap.size + 2, 0, none⟩) (by simp) (.slice none 0 0)).other (p := ⟨w.heap.size + 2, 6, none⟩) (by simp) (.slice none 0 0)
  have hR2 := (hR1.other (p := ⟨w.heap.size + 2, 0, none⟩) (by simp) (.slice none 0 0)).other (p := ⟨w.heap.size + 2, 6, none⟩) (by simp) (.slice none 0 0)
  have hb4 := (hb1.setCell (p := ⟨w.heap.size + 2, 0, none⟩) (by simp) (.slice none 0 0)).setCell (p := ⟨w.heap.size + 2, 6, none⟩) (by simp) (.slice none 0 0)
  change Blk _ _ 26 [.slice none 0 0, .slice p.R s.rest.length p.cR, .slice p.I s.ins.length p.cI, .slice p.O s.outs.length p.cO, .int .i64 s.cover, .int .i64 s.dull, .slice none 0 0] at hT2
  clear y0 y6 f0 f6 hb1 hS1 hR1 hT
  generalize (W1.setCell _ _).setCell _ _ = W4 at *
  have x0 : W4.cell? ⟨w.heap.size, 0, none⟩ = _ := hS2.cell (i := 0) rfl
  have hmk := Hmk.out
  go_upto_region 5 with fail
  clear x0 hmk
  have hG := Blk.new W4 3 ((tab s.acts.length fun _ => 0).map (Value.int .i64))
  have hal := ext_alloc W4 (.cells ((tab s.acts.length fun _ => 0).map (Value.int .i64)).toArray 3)
  have hT5 := hT2.ext hal
  have hS5 := hS2.ext hal
  have hR5 := hR2.ext hal
  have hb5 := ext_trans hb4 hal
  have hGs := hb4.size
  have hTG : w.heap.size + 2 < W4.heap.size := hT2.lt
  have hGlt := hG.lt
  have HE := Lib.hid (fun W (hW : Dr.Bel [w.heap.size + 2, W4.heap.size] (W4.alloc (.cells ((tab s.acts.length fun _ => 0).map (Value.int .i64)).toArray 3)) W) => And.intro (hb5.trans (hW.old hb5.size (fun k hk => by simp only [List.mem_cons, List.not_mem_nil, or_false] at hk; omega))) (And.intro (hW.blk hS5 (by simp; omega)) (hW.blk hR5 (by simp; omega))))
  have hI0 : WoI 50 26 (W4.alloc (.cells ((tab s.acts.length fun _ => 0).map (Value.int .i64)).toArray 3)) (w.heap.size + 2) W4.heap.size s pn (.slice p.R s.rest.length p.cR) (.slice p.I s.ins.length p.cI) (.slice p.O s.outs.length p.cO) (.int .i64 s.cover) (.int .i64 s.dull) (s.atTo pn 0) [] [] (.slice none 0 0) (.slice none 0 0) (.slice none 0 0) [] (W4.alloc (.cells ((tab s.acts.length fun _ => 0).map (Value.int .i64)).toArray 3)) :=
    ⟨Dr.Bel.refl _ _, hT5, by rw [Sh.atTo_zero]; exact hG, OwnL.nil, rfl, by simp, OwnL.nil, OwnL.nil, by have := hal.size; omega, hGlt⟩
  have HI0 := Lib.hid hI0
  have Hsz0 := Lib.hid hb5.size
  clear hI0 hT2 hS2 hR2 hb4 hal hG hT5 hb5
  have x0 : (W4.alloc (.cells ((tab s.acts.length fun _ => 0).map (Value.int .i64)).toArray 3)).cell? ⟨w.heap.size, 0, none⟩ = some (.slice p.A s.acts.length p.cA) := hS5.cell (i := 0) rfl
  clear hS5 hR5
  generalize W4.alloc (.cells ((tab s.acts.length fun _ => 0).map (Value.int .i64)).toArray 3) = W5 at *
  generalize W4.heap.size = G at *
  go_upto_block 0 with fail
  clear x0
  go_wp2
  go_loopw [8, 10] (fun vk t wr => ∃ (i : Nat) (va : Value) (av : List AcV), t = .int .i64 i ∧ i ≤ s.acts.length ∧ Hid (∀ j, j < i → s.excB pn j = false) ∧ WoI 50 26 W5 (w.heap.size + 2) G s pn (.slice p.R s.rest.length p.cR) (.slice p.I s.ins.length p.cI) (.slice p.O s.outs.length p.cO) (.int .i64 s.cover) (.int .i64 s.dull) (s.atTo pn i) (s.keptTo pn i) [] va vk (.slice none 0 0) av wr) (fun _ t _ => s.acts.length - (intOf t).toNat)
  case atStart => exact ⟨0, _, [], rfl, by omega, Lib.hid (by intro j hj; omega), HI0.out⟩
  case round =>
    clear HI0
    obtain ⟨i, va, av, rfl, hi, Hno, hI⟩ := hrel
    obtain ⟨hbw, hSw, hRw⟩ := HE.out wr hI.be
    have x0 : wr.cell? ⟨w.heap.size, 0, none⟩ = some (.slice p.A s.acts.length p.cA) := hSw.cell (i := 0) rfl
    by_cases hlt : i < s.acts.length
    · have hlt' : (i : Int) < (s.acts.length : Int) := by omega
      have hi0 : (0 : Int) ≤ (i : Int) := by omega
      obtain ⟨bA, oA, Ci, ci, hA, hbA, c0, c1, c2, c3, c4, hcc⟩ := (Hh.out wr hbw).at hlt
      have hbit := (Hh.out wr hbw).bit hlt
      rw [hA] at x0
      have HI := Lib.hid hI
      have Hbit := Lib.hid hbit
      have hlen : (s.act i).casts.length ≤ 1000 := hbit.2.1
      have hWs := hI.be.size
      clear hI hbit hRw hA
      go_upto_region 9 with fail
      generalize wr = w4 at *
      have hN : Blk (w4.alloc (.cells #[.int .i64 (s.act i).min, .int .i64 (s.act i).ten, .int .u16 (s.act i).rigs, .slice Ci (s.act i).casts.length ci, .bool (s.act i).spare] 50)) w4.heap.size 50 (AcV.enc ⟨s.act i, Ci, ci⟩) := Blk.new w4 50 (AcV.enc ⟨s.act i, Ci, ci⟩)
      have hal := ext_alloc w4 (.cells #[.int .i64 (s.act i).min, .int .i64 (s.act i).ten, .int .u16 (s.act i).rigs, .slice Ci (s.act i).casts.length ci, .bool (s.act i).spare] 50)
      have Hx0 := Lib.hid (fun W (hW : Below w4.heap.size w4 W) => show W.cell? ⟨w.heap.size, 0, none⟩ = some (.slice (some ⟨bA, oA, none⟩) s.acts.length p.cA) from (hW.cell hSw.lt).trans x0)
      have Hc3 := Lib.hid (fun W (hW : Below w4.heap.size w4 W) => (hW.cell (p := ⟨bA, oA + i * 5 + 3, none⟩) hbA).trans c3)
      have Hcc := Lib.hid (fun W (hW : Below w4.heap.size w4 W) => hcc.ext hW)
      clear c0 c1 c2 c3 c4 x0 hcc hbw hSw hbA
      generalize w4.alloc (.cells #[.int .i64 (s.act i).min, .int .i64 (s.act i).ten, .int .u16 (s.act i).rigs, .slice Ci (s.act i).casts.length ci, .bool (s.act i).spare] 50) = W6 at *
      have z3 : W6.cell? ⟨w4.heap.size, 3, none⟩ = _ := hN.cell (i := 3) rfl
      have f3 := hN.free 3
      go_upto_region 10 with fail
      have hN2 := hN.set 3 (.slice none 0 0)
      have hb7 := hal.setCell (p := ⟨w4.heap.size, 3, none⟩) (by simp) (.slice none 0 0)
      change Blk _ _ 50 [.int .i64 (s.act i).min, .int .i64 (s.act i).ten, .int .u16 (s.act i).rigs, .slice none 0 0, .bool (s.act i).spare] at hN2
      clear z3 f3 hN hal
      generalize W6.setCell ⟨w4.heap.size, 3, none⟩ (.slice none 0 0) = W7 at *
      have x0 := Hx0.out W7 hb7
      have c3 := Hc3.out W7 hb7
      have HI7 := Lib.hid (And.intro hb7 hN2)
      clear hb7 hN2
      go_upto_block 2 with fail
      clear x0 c3
      go_wp2
      go_loopw [12] (fun t wr => ∃ (k : Nat) (vc : Value), t = .int .i64 k ∧ k ≤ (s.act i).casts.length ∧ Below w4.heap.size w4 wr ∧ Blk wr w4.heap.size 50 [.int .i64 (s.act i).min, .int .i64 (s.act i).ten, .int .u16 (s.act i).rigs, vc, .bool (s.act i).spare] ∧ OwnL wr (w4.heap.size + 1) 47 1 encU vc (((s.act i).casts.take k).filter fun c => !c.testBit pn)) (fun t _ => (s.act i).casts.length - (intOf t).toNat)
      case atStart => exact ⟨0, _, rfl, by omega, HI7.out.1, HI7.out.2, by simpa using OwnL.nil⟩
      case round =>
        clear HI7
        obtain ⟨k, vc, rfl, hk, hbq, hN, hvc⟩ := hrel
        have x0 := Hx0.out wr hbq
        have c3 := Hc3.out wr hbq
        by_cases hkt : k < (s.act i).casts.length
        · have hkt' : (k : Int) < ((s.act i).casts.length : Int) := by omega
          have hk0 : (0 : Int) ≤ (k : Int) := by omega
          obtain ⟨bC, oC, hC, -, d0⟩ := (Hcc.out wr hbq).at1 hkt rfl
          have hc16 := Hbit.out.2.2 _ (List.getElem_mem hkt)
          have hst : (((s.act i).casts.take (k + 1)).filter fun c => !c.testBit pn) = if (s.act i).casts[k].testBit pn = true then ((s.act i).casts.take k).filter fun c => !c.testBit pn else (((s.act i).casts.take k).filter fun c => !c.testBit pn) ++ [(s.act i).casts[k]] := by
            rw [List.take_succ_eq_append_getElem hkt, List.filter_append]
            by_cases h : (s.act i).casts[k].testBit pn = true <;> simp [h]
          have hll : (((s.act i).casts.take k).filter fun c => !c.testBit pn).length ≤ 1000 := by
            have := List.length_filter_le (fun c => !c.testBit pn) ((s.act i).casts.take k)
            rw [List.length_take] at this
            omega
          rw [hC] at c3
          obtain ⟨Cv, cv, rfl, -, -, -⟩ := hvc.cells encU_len
          have ch := has_any (s.act i).casts[k] pn wr hc16 (by omega)
          rw [show decide (pn < 16) = true by simp; omega, Bool.true_and] at ch
          generalize (s.act i).casts[k] = ck at *
          generalize ((s.act i).casts.take k).filter (fun c => !c.testBit pn) = ft at *
          generalize ck.testBit pn = b at *
          have CH := Lib.hid ch
          have Hst := Lib.hid hst
          have HN := Lib.hid (And.intro hN hvc)
          have hqs := hbq.size
          clear hst ch hC hN hvc
          cases b
          · have HS : Hid (((s.act i).casts.take (k + 1)).filter (fun c => !c.testBit pn) = ft ++ [ck]) := Lib.hid (by rw [Hst.out]; simp)
            clear Hst
            go_wp2_with fail
            refine CH.out.mono ?_; rintro e w1 ⟨rfl, rfl⟩
            go_upto_region 14 with fail
            have hbd := hbq.drew
            have hN2 := HN.out.1.ext (ext_drew wr)
            have hvc2 := HN.out.2.ext (ext_drew wr)
            have q0 := Dr.cell0 (w := wr.drew) (hN2.cell (i := 3) rfl)
            have q1 := Dr.cell0 (w := wr.drew) (show wr.drew.cell? _ = _ from x0)
            have q2 := Dr.cell0 (w := wr.drew) (show wr.drew.cell? _ = _ from c3)
            have q3 := Dr.cell0 (w := wr.drew) (show wr.drew.cell? _ = _ from d0)
            refine Dr.wp_region_plan 12 [] (.q [0, 1, 2, 3, 4, 5, 6, 7, 8, 9, 10] (.e1 11 .done)) (by kernel_rfl) (by kernel_rfl) ?_
            clear x0 c3 d0 HN CH hbq
            generalize World.drew _ = V at *
            refine Dr.plan_q (l := [_, _, _, _, _, _, _, _, _, _, _]) rfl (fun K hK => ?_)
            iterate 11 (go_big_quiet_step (fail))
            refine wpQuiet_nil (hK _ ?_); clear hK K q0 q1 q2 q3
            have hba := ext_alloc V (.cells #[.int .u16 ck] 47)
            have hnew : Blk (V.alloc (.cells #[.int .u16 ck] 47)) V.heap.size 47 (encU ck) := Blk.new V 47 (encU ck)
            refine Dr.plan_e rfl (by rfl) (fun K hK => ?_)
            go_wp2_with fail
            refine hK _ _ (.of hba) ?_; clear hK K
            have hN3 := hN2.ext hba
            have hvc3 := hvc2.ext hba
            have hbb := ext_trans hbd hba
            have hsz : w4.heap.size + 1 ≤ (V.alloc (.cells #[.int .u16 ck] 47)).heap.size := by have := hN2.lt; have := hba.size; omega
            clear hN2 hvc2 hbd hba
            generalize V.alloc (.cells #[.int .u16 ck] 47) = V2 at *
            refine Dr.plan_done (tl := [_, _, _]) rfl ?_
            refine app1 encU 48 47 1 2 et48 (by decide) (by decide) encU_len encU_one rfl _ _ rfl (w4.heap.size + 1) _ ft rfl hvc3 V.heap.size rfl ck (fun j u hj => hnew.cell hj) (by omega) hsz ?_
            intro g' cap' V3 hown hb3 hg3 hat3
            have hN4 := blk_grown hN3 hg3 (own_lo hvc3 (by omega))
            have z3 : V3.cell? ⟨w4.heap.size, 3, none⟩ = _ := hN4.cell (i := 3) rfl
            have f3 := hN4.free 3
            have HF := Lib.hid (And.intro ((hbb.trans (hb3.mono (by omega))).setCell (p := ⟨w4.heap.size, 3, none⟩) (by simp) (.slice (some ⟨g', 0, none⟩) (ft.length + 1) cap')) (And.intro (hN4.set 3 (.slice (some ⟨g', 0, none⟩) (ft.length + 1) cap')) (OwnL.othr hown hN4 (by decide) 3 (.slice (some ⟨g', 0, none⟩) (ft.length + 1) cap'))))
            clear hN3 hvc3 hbb hown hb3 hg3 hat3 hN4 hnew
            go_frame
            go_wp2
            go_roundw
            case rel => exact ⟨k + 1, _, by go_num, by omega, HF.out.1, HF.out.2.1, by rw [HS.out]; exact HF.out.2.2⟩
            case measure => simp [intOf]; omega
          · have HS : Hid (((s.act i).casts.take (k + 1)).filter (fun c => !c.testBit pn) = ft) := Lib.hid (by rw [Hst.out]; simp)
            clear Hst
            go_wp2_with fail
            refine CH.out.mono ?_; rintro e w1 ⟨rfl, rfl⟩
            go_wp2
            go_roundw
            case rel => exact ⟨k + 1, _, by go_num, by omega, hbq, HN.out.1, by rw [HS.out]; exact HN.out.2⟩
            case measure => simp [intOf]; omega
        · obtain rfl : k = (s.act i).casts.length := by omega
          have hfin : (((s.act i).casts.take (s.act i).casts.length).filter fun c => !c.testBit pn) = s.castsW pn i := by rw [List.take_length]; rfl
          rw [hfin] at hvc
          obtain ⟨C2, d2, rfl, -, -, -⟩ := hvc.cells encU_len
          have HI8 := Lib.hid (HI.out.ext hbq)
          have Hvc8 := Lib.hid (OwnL.up hvc (Nat.zero_le _))
          have HN8 := Lib.hid hN
          have hws := hbq.size
          clear hfin hvc hN hkt hk hbq HI
          have hal0 : (s.atTo pn i).length = s.acts.length := Sh.atTo_len i
          have g0 : wr.cell? ⟨G, i, none⟩ = some (.int .i64 ((s.atTo pn i)[i]'(by omega))) := HI8.out.at'.cell (by simp [show i < (s.atTo pn i).length by omega])
          have g1 := HI8.out.at'.free i
          have hNG : w4.heap.size ≠ G := by have := HI8.out.lt.2; omega
          go_upto_region 16 with fail
          clear x0 c3
          have hI9 := HI8.out.setG (by decide) (by decide) i (-1)
          have hN9 := HN8.out.other (p := ⟨G, i, none⟩) hNG (.int .i64 (-1))
          have hvc9 := OwnL.othr Hvc8.out HI8.out.at' (by decide) i (.int .i64 (-1))
          clear g0 g1 HI8 Hvc8 HN8
          generalize wr.setCell ⟨G, i, none⟩ (.int .i64 (-1)) = W9 at *
          have z3 : W9.cell? ⟨w4.heap.size, 3, none⟩ = _ := hN9.cell (i := 3) rfl
          have Hk := Lib.hid (show s.kepB pn i = decide (0 < (s.castsW pn i).length) from rfl)
          have Hks := Lib.hid (Sh.keptTo_succ (s := s) (p := pn) i)
          have Hat := Lib.hid (Sh.atTo_succ (s := s) (p := pn) hlt)
          have Hni := Lib.hid (show s.newI pn i = if s.kepB pn i = true then ((s.keptTo pn i).length : Int) else -1 from rfl)
          have Hex := Lib.hid (show s.excB pn i = (!s.kepB pn i && !(s.act i).spare) from rfl)
          have hkl := Sh.keptTo_le (s := s) (p := pn) i
          have hel : av.length = (s.keptTo pn i).length := by
            have := congrArg List.length hI9.eq
            simpa using this
          obtain ⟨Ak, ck, rfl⟩ : ∃ Ak ck, u8 = .slice Ak (s.keptTo pn i).length ck := by
            obtain ⟨Ak, ck, e1, -, -, -⟩ := hI9.kp.cells encI_len
            rw [toI_len] at e1
            exact ⟨Ak, ck, e1⟩
          have HI9 := Lib.hid hI9
          have Hvc9 := Lib.hid hvc9
          have HN9 := Lib.hid hN9
          clear hI9 hvc9 hN9
          by_cases hkp : 0 < (s.castsW pn i).length
          · have hk : s.kepB pn i = true := by rw [Hk.out]; simp [hkp]
            have hg : ((s.castsW pn i).length : Int) > 0 := by omega
            have Hks2 : Hid (s.keptTo pn (i + 1) = s.keptTo pn i ++ [i]) := Lib.hid (by rw [Hks.out, if_pos hk])
            have Hat2 : Hid (s.atTo pn (i + 1) = (s.atTo pn i).set i ((s.keptTo pn i).length : Int)) := Lib.hid (by rw [Hat.out, Hni.out, if_pos hk])
            have Hno2 := Lib.hid (show ∀ j, j < i + 1 → s.excB pn j = false from fun j hj => by
              rcases Nat.lt_or_ge j i with h1 | h1
              · exact Hno.out j h1
              · obtain rfl : j = i := by omega
                rw [Hex.out, hk]; rfl)
            clear Hk Hks Hat Hni Hex hk hkp Hno
            have g0 : W9.cell? ⟨G, i, none⟩ = some (.int .i64 (-1)) := HI9.out.at'.cell (by simp [show i < (s.atTo pn i).length by omega])
            have g1 := HI9.out.at'.free i
            go_upto_region 18 with fail
            have hI10 := HI9.out.setG (by decide) (by decide) i ((s.keptTo pn i).length : Int)
            rw [List.set_set, ← Hat2.out] at hI10
            have hN10 := HN9.out.other (p := ⟨G, i, none⟩) hNG (.int .i64 ((s.keptTo pn i).length : Int))
            have hvc10 := OwnL.othr Hvc9.out HI9.out.at' (by decide) i (.int .i64 ((s.keptTo pn i).length : Int))
            clear g0 g1 z3 HI9 Hvc9 HN9 Hat2
            generalize W9.setCell ⟨G, i, none⟩ (.int .i64 ((s.keptTo pn i).length : Int)) = W10 at *
            have z0 : W10.cell? ⟨w4.heap.size, 0, none⟩ = _ := hN10.cell (i := 0) rfl
            have z1 : W10.cell? ⟨w4.heap.size, 1, none⟩ = _ := hN10.cell (i := 1) rfl
            have z2 : W10.cell? ⟨w4.heap.size, 2, none⟩ = _ := hN10.cell (i := 2) rfl
            have z3 : W10.cell? ⟨w4.heap.size, 3, none⟩ = _ := hN10.cell (i := 3) rfl
            have z4 : W10.cell? ⟨w4.heap.size, 4, none⟩ = _ := hN10.cell (i := 4) rfl
            have t0 : W10.cell? ⟨w.heap.size + 2, 0, none⟩ = _ := hI10.tb.cell (i := 0) rfl
            have hal := ext_alloc W10 (.cells #[.int .i64 (s.act i).min, .int .i64 (s.act i).ten, .int .u16 (s.act i).rigs, .slice C2 (s.castsW pn i).length d2, .bool (s.act i).spare] 50)
            have hnew : Blk (W10.alloc (.cells #[.int .i64 (s.act i).min, .int .i64 (s.act i).ten, .int .u16 (s.act i).rigs, .slice C2 (s.castsW pn i).length d2, .bool (s.act i).spare] 50)) W10.heap.size 50 (AcV.enc ⟨s.actW pn i, C2, d2⟩) := Blk.new W10 50 (AcV.enc ⟨s.actW pn i, C2, d2⟩)
            have HI11 := Lib.hid (hI10.ext hal)
            have Hvc11 := Lib.hid (hvc10.ext hal)
            have hsz := hI10.be.size
            have Hel := Lib.hid hel
            clear hI10 hN10 hvc10 hel hal0 hNG hlen
            go_wp2_with (first | (at_builtin; refine app1 AcV.enc 22 50 5 56 et22 (by decide) (by decide) acv_len acv_one rfl _ _ rfl W5.heap.size va av rfl HI11.out.own W10.heap.size rfl ⟨s.actW pn i, C2, d2⟩ (fun j u hj => hnew.cell hj) (by rw [Hel.out]; omega) (by simp; omega) ?_; intro g' cap' V1 h1 hb1 hg1 hat1) | (at_builtin; refine app1 encI 23 3 1 8 et23 (by decide) (by decide) encI_len encI_one rfl _ _ rfl W5.heap.size _ (toI (s.keptTo pn i)) rfl ((HI11.out.kp.kept hg1 (own_own HI11.out.kp HI11.out.own (by decide))).alloc _) V1.heap.size rfl (i : Int) (encI_cell ((Blk.new V1 3 [.int .i64 (i : Int)]).cell rfl)) (by rw [toI_len]; omega) (by have := hg1.size; simp at *; omega) ?_; intro g2 cap2 V2 h2 hb2 hg2 hat2; have HF := Lib.hid (HI11.out.snoc (x := ⟨s.actW pn i, C2, d2⟩) (i := i) (by decide) (by decide) (by decide) (by decide) (by decide) (by decide) (by decide) Hvc11.out rfl h1 hg1 (ext_alloc V1 _) (by rw [toI_snoc]; exact h2) hg2); have tb3 := blk_grown ((blk_grown HI11.out.tb hg1 (own_lo HI11.out.own HI11.out.lt.1)).ext (ext_alloc V1 (.cells #[.int .i64 (i : Int)] 3))) hg2 (own_lo HI11.out.kp HI11.out.lt.1); have y0 := tb3.cell (i := 0) rfl; have f0 := tb3.free 0; clear tb3 h1 h2 hb1 hb2 hg1 hg2 hat1 hat2))
            go_roundw
            case rel => exact ⟨i + 1, _, _, by go_num, by omega, Hno2, by rw [Hks2.out]; exact HF.out⟩
            case measure => simp [intOf]; omega
          · have hk : s.kepB pn i = false := by rw [Hk.out]; exact decide_eq_false hkp
            have hg : ¬ ((s.castsW pn i).length : Int) > 0 := by omega
            have Hks2 : Hid (s.keptTo pn (i + 1) = s.keptTo pn i) := Lib.hid (by rw [Hks.out, hk]; simp)
            have Hat2 : Hid (s.atTo pn (i + 1) = (s.atTo pn i).set i (-1)) := Lib.hid (by rw [Hat.out, Hni.out, hk]; simp)
            have z4 : W9.cell? ⟨w4.heap.size, 4, none⟩ = _ := HN9.out.cell (i := 4) rfl
            have Hex2 : Hid (s.excB pn i = !(s.act i).spare) := Lib.hid (by rw [Hex.out, hk]; rfl)
            clear Hk Hks Hat Hni Hex hk hkp
            generalize (s.act i).spare = spr at *
            cases spr
            · have Hxi := Lib.hid (HX.out i (Sh.excep_some hlt Hno.out (by rw [Hex2.out]; rfl)))
              clear Hex2 Hks2 Hat2 Hvc9 HN9 hel hal0 hkl Hno hNG hlen
              have hb9 := (HE.out W9 HI9.out.be).1
              have hR9 := (HE.out W9 HI9.out.be).2.2
              have y0 : W9.cell? ⟨w.heap.size + 1, 0, none⟩ = some _ := hR9.cell (i := 0) rfl
              have f0 := hR9.free 0
              have s0 := set_self hR9 (i := 0) rfl
              have y1 : W9.cell? ⟨w.heap.size + 1, 1, none⟩ = some _ := hR9.cell (i := 1) rfl
              have f1 := hR9.free 1
              have s1 := set_self hR9 (i := 1) rfl
              have y2 : W9.cell? ⟨w.heap.size + 1, 2, none⟩ = some _ := hR9.cell (i := 2) rfl
              have f2 := hR9.free 2
              have s2 := set_self hR9 (i := 2) rfl
              have y3 : W9.cell? ⟨w.heap.size + 1, 3, none⟩ = some _ := hR9.cell (i := 3) rfl
              have f3 := hR9.free 3
              have s3 := set_self hR9 (i := 3) rfl
              have y4 : W9.cell? ⟨w.heap.size + 1, 4, none⟩ = some _ := hR9.cell (i := 4) rfl
              have f4 := hR9.free 4
              have s4 := set_self hR9 (i := 4) rfl
              have y5 : W9.cell? ⟨w.heap.size + 1, 5, none⟩ = some _ := hR9.cell (i := 5) rfl
              have f5 := hR9.free 5
              have s5 := set_self hR9 (i := 5) rfl
              have y6 : W9.cell? ⟨w.heap.size + 1, 6, none⟩ = some _ := hR9.cell (i := 6) rfl
              have f6 := hR9.free 6
              have s6 := set_self hR9 (i := 6) rfl
              have Hb9 := Lib.hid hb9
              clear HI9 hR9 hb9
              go_wp2
              refine bodyPost_ret (v := .tuple #[.agg #[.slice none 0 0, .slice none 0 0, .slice none 0 0, .slice none 0 0, .int .i64 0, .int .i64 0, .slice none 0 0], .slice none 0 0, .int .i64 (i : Int)]) (by simp [results, Try.results38, go_sem, y0, y1, y2, y3, y4, y5, y6]) rfl ?_
              exact ⟨Hxi.out _, Hb9.out⟩
            · have Hno2 := Lib.hid (show ∀ j, j < i + 1 → s.excB pn j = false from fun j hj => by
                rcases Nat.lt_or_ge j i with h1 | h1
                · exact Hno.out j h1
                · obtain rfl : j = i := by omega
                  rw [Hex2.out]; rfl)
              clear Hex2 Hvc9 HN9 hel hal0 hkl Hno hNG hlen
              go_wp2
              go_roundw
              case rel => exact ⟨i + 1, _, _, by go_num, by omega, Hno2, by rw [Hks2.out, Hat2.out]; exact HI9.out⟩
              case measure => simp [intOf]; omega
    · obtain rfl : i = s.acts.length := by omega
      have hexc := Sh.excep_none (s := s) (p := pn) (fun j hj => Hno.out j hj)
      have HYe := Lib.hid (fun q vk W h2 h3 => HY.out hexc q vk W h2 h3)
      have HI := Lib.hid hI
      clear hexc HX HY hbw hSw hRw hI Hno
      go_upto_block 4 with fail
      clear x0
      go_wp2
      generalize wr = w4 at *
      go_loopw [13] (fun t wq => ∃ (q : Nat) (vb : Value), t = .int .i64 q ∧ q ≤ s.before.length ∧ WoI 50 26 W5 (w.heap.size + 2) G s pn (.slice p.R s.rest.length p.cR) (.slice p.I s.ins.length p.cI) (.slice p.O s.outs.length p.cO) (.int .i64 s.cover) (.int .i64 s.dull) (s.atTo pn s.acts.length) (s.keptTo pn s.acts.length) (s.befTo pn q) va u8 vb av wq) (fun t _ => s.before.length - (intOf t).toNat)
      case atStart => exact ⟨0, _, rfl, by omega, HI.out⟩
      case round =>
        clear HI
        obtain ⟨q, vb, rfl, hq, hI⟩ := hrel
        obtain ⟨hbw, hSw, -⟩ := HE.out wr hI.be
        have x6 : wr.cell? ⟨w.heap.size, 6, none⟩ = some (.slice p.B s.before.length p.cB) := hSw.cell (i := 6) rfl
        by_cases hltq : q < s.before.length
        · have hltq' : (q : Int) < (s.before.length : Int) := by omega
          have hq0 : (0 : Int) ≤ (q : Int) := by omega
          obtain ⟨bb, ob, hB, -, c0, c1⟩ := (Hh.out wr hbw).before.at2 hltq rfl
          rw [hB] at x6
          clear hB
          have hpb := Hok.out.before _ (List.getElem_mem hltq)
          unfold Sh.pairB at hpb
          simp only [Bool.and_eq_true, btw_iff] at hpb
          obtain ⟨Pa, hPa⟩ : ∃ P : Nat, s.before[q].1 = P := ⟨s.before[q].1.toNat, by omega⟩
          obtain ⟨Pb, hPb⟩ : ∃ P : Nat, s.before[q].2 = P := ⟨s.before[q].2.toNat, by omega⟩
          have hPa8 : Pa < s.acts.length := by omega
          have hPb8 : Pb < s.acts.length := by omega
          have hst := Sh.befTo_succ (s := s) (p := pn) hltq
          have hpw : s.pairW pn s.before[q] = if 0 ≤ s.newI pn Pa ∧ 0 ≤ s.newI pn Pb then some (s.newI pn Pa, s.newI pn Pb) else none := by unfold Sh.pairW; rw [hPa, hPb]; rfl
          rw [hpw] at hst
          rw [hPa] at c0
          rw [hPb] at c1
          have Hst := Lib.hid hst
          have HI := Lib.hid hI
          have hWs := hI.be.size
          have hbd1 := Sh.newI_bd (s := s) (p := pn) Pa
          have hbd2 := Sh.newI_bd (s := s) (p := pn) Pb
          have Hga := Lib.hid (show ((s.atTo pn s.acts.length).map (Value.int .i64))[Pa]? = some (.int .i64 (s.newI pn Pa)) from by rw [List.getElem?_map, List.getElem?_eq_getElem (by rw [Sh.atTo_len]; exact hPa8), Sh.atTo_at hPa8 hPa8]; rfl)
          have Hgb := Lib.hid (show ((s.atTo pn s.acts.length).map (Value.int .i64))[Pb]? = some (.int .i64 (s.newI pn Pb)) from by rw [List.getElem?_map, List.getElem?_eq_getElem (by rw [Sh.atTo_len]; exact hPb8), Sh.atTo_at hPb8 hPb8]; rfl)
          have hbl := Sh.befTo_le (s := s) (p := pn) q
          clear hst hpw hI hbw hSw hpb hPa hPb hWs
          generalize s.newI pn Pa = na at *
          generalize s.newI pn Pb = nb at *
          go_upto_region 24 with fail
          refine Dr.wp_region_plan 20 [] (.q [0, 1, 2, 3, 4, 5, 6, 7, 8, 9, 10, 11, 12, 13, 14, 15, 16, 17, 18, 19] .done) (by kernel_rfl) (by kernel_rfl) ?_
          have HId := Lib.hid (HI.out.ext (ext_drew wr))
          have q0 := Dr.cell0 (w := wr.drew) (show wr.drew.cell? _ = _ from x6)
          have q1 := Dr.cell0 (w := wr.drew) (show wr.drew.cell? _ = _ from c0)
          have q2 := Dr.cell0 (w := wr.drew) (show wr.drew.cell? _ = _ from c1)
          have q3 := Dr.cell0 (HId.out.at'.cell Hga.out)
          have q4 := Dr.cell0 (HId.out.at'.cell Hgb.out)
          have ha0 : (0 : Int) ≤ (Pa : Int) := by omega
          have ha1 : (Pa : Int) < (s.acts.length : Int) := by omega
          have hb0 : (0 : Int) ≤ (Pb : Int) := by omega
          have hb1 : (Pb : Int) < (s.acts.length : Int) := by omega
          clear Hga Hgb x6 c0 c1 HI
          generalize World.drew _ = V at *
          refine Dr.plan_q (l := [_, _, _, _, _, _, _, _, _, _, _, _, _, _, _, _, _, _, _, _]) rfl (fun K hK => ?_)
          iterate 20 (go_big_quiet_step (fail))
          refine wpQuiet_nil (hK _ ?_); clear hK K q0 q1 q2 q3 q4
          refine Dr.plan_end rfl ?_
          by_cases hna : 0 ≤ na
          rotate_left
          · have hna' : ¬ na ≥ 0 := hna
            have HN : Hid (s.befTo pn (q + 1) = s.befTo pn q) := Lib.hid (by rw [Hst.out, if_neg (fun h => hna h.1)])
            clear hna
            go_wp2
            go_roundw
            case rel => exact ⟨q + 1, _, by go_num, by omega, by rw [HN.out]; exact HId.out⟩
            case measure => simp [intOf]; omega
          by_cases hnb : 0 ≤ nb
          rotate_left
          · have hna' : na ≥ 0 := hna
            have hnb' : ¬ nb ≥ 0 := hnb
            have HN : Hid (s.befTo pn (q + 1) = s.befTo pn q) := Lib.hid (by rw [Hst.out, if_neg (fun h => hnb h.2)])
            clear hnb
            go_wp2
            go_roundw
            case rel => exact ⟨q + 1, _, by go_num, by omega, by rw [HN.out]; exact HId.out⟩
            case measure => simp [intOf]; omega
          have hna' : na ≥ 0 := hna
          have hnb' : nb ≥ 0 := hnb
          have HN : Hid (s.befTo pn (q + 1) = s.befTo pn q ++ [(na, nb)]) := Lib.hid (by rw [Hst.out, if_pos ⟨hna, hnb⟩])
          go_upto_region 26 with fail
          have t6 : V.cell? ⟨w.heap.size + 2, 6, none⟩ = _ := HId.out.tb.cell (i := 6) rfl
          have hal := ext_alloc V (.cells #[.int .i64 na, .int .i64 nb] 84)
          have hnew : Blk (V.alloc (.cells #[.int .i64 na, .int .i64 nb] 84)) V.heap.size 84 (encP (na, nb)) := Blk.new V 84 (encP (na, nb))
          have HI4 := Lib.hid (HId.out.ext hal)
          have hsz := HId.out.be.size
          clear HId Hst hna hnb hal
          go_wp2_with (at_builtin; refine app1 encP 24 84 2 16 et24 (by decide) (by decide) encP_len encP_one rfl _ _ rfl W5.heap.size vb (s.befTo pn q) rfl HI4.out.ob V.heap.size rfl (na, nb) (fun j u hj => hnew.cell hj) (by omega) (by simp; omega) ?_; intro g' cap' U1 h1 hb1 hg1 hat1; have HF := Lib.hid (HI4.out.pair (by decide) (by decide) (by decide) (by decide) (by decide) h1 hg1); have tb3 := blk_grown HI4.out.tb hg1 (own_lo HI4.out.ob HI4.out.lt.1); have y6 := tb3.cell (i := 6) rfl; have f6 := tb3.free 6; clear tb3 h1 hb1 hg1 hat1)
          go_roundw
          case rel => exact ⟨q + 1, _, by go_num, by omega, by rw [HN.out]; exact HF.out⟩
          case measure => simp [intOf]; omega
        · obtain rfl : q = s.before.length := by omega
          have hl1 : (s.lessW pn).acts.length = av.length := by
            have := congrArg List.length hI.eq
            simp at this
            show ((s.keptTo pn s.acts.length).map (s.actW pn)).length = _
            rw [List.length_map]; exact this.symm
          obtain ⟨Aa, ca, e1, -, -, -⟩ := hI.own.cells acv_len
          obtain ⟨Ab, cb, e2, -, -, -⟩ := hI.ob.cells encP_len
          rw [← hl1] at e1
          have e2 : vb = .slice Ab (s.lessW pn).before.length cb := e2
          subst e1
          subst e2
          have hkl := Sh.keptTo_le (s := s) (p := pn) s.acts.length
          have hbl := Sh.befTo_le (s := s) (p := pn) s.before.length
          have hbw' := (HE.out wr hI.be).1
          have hR := (HE.out wr hI.be).2.2
          have hsz := hI.be.size
          have hR4 := put7g hR (.slice Aa (s.lessW pn).acts.length ca) (.slice p.R s.rest.length p.cR) (.slice p.I s.ins.length p.cI) (.slice p.O s.outs.length p.cO) (.int .i64 s.cover) (.int .i64 s.dull) (.slice Ab (s.lessW pn).before.length cb)
          have hb4 := hR4.2 w.heap.size w (by omega) hbw'
          have hR4 := hR4.1
          have g1 := (put7og hR (.slice Aa (s.lessW pn).acts.length ca) (.slice p.R s.rest.length p.cR) (.slice p.I s.ins.length p.cI) (.slice p.O s.outs.length p.cO) (.int .i64 s.cover) (.int .i64 s.dull) (.slice Ab (s.lessW pn).before.length cb) hI.own (by decide)).cl acv_len
          have g2 := fun x hx => (put7og hR (.slice Aa (s.lessW pn).acts.length ca) (.slice p.R s.rest.length p.cR) (.slice p.I s.ins.length p.cI) (.slice p.O s.outs.length p.cO) (.int .i64 s.cover) (.int .i64 s.dull) (.slice Ab (s.lessW pn).before.length cb) (hI.cs x hx) (by decide)).cl encU_len
          have g3 := (put7og hR (.slice Aa (s.lessW pn).acts.length ca) (.slice p.R s.rest.length p.cR) (.slice p.I s.ins.length p.cI) (.slice p.O s.outs.length p.cO) (.int .i64 s.cover) (.int .i64 s.dull) (.slice Ab (s.lessW pn).before.length cb) hI.ob (by decide)).cl encP_len
          have g4 := OwnL.up (put7og hR (.slice Aa (s.lessW pn).acts.length ca) (.slice p.R s.rest.length p.cR) (.slice p.I s.ins.length p.cI) (.slice p.O s.outs.length p.cO) (.int .i64 s.cover) (.int .i64 s.dull) (.slice Ab (s.lessW pn).before.length cb) hI.kp (by decide)) Hsz0.out
          have g5 := Hh.out _ hb4
          have hM : ShM (((((((wr.setCell ⟨w.heap.size + 1, 0, none⟩ (.slice Aa (s.lessW pn).acts.length ca)).setCell ⟨w.heap.size + 1, 1, none⟩ (.slice p.R s.rest.length p.cR)).setCell ⟨w.heap.size + 1, 2, none⟩ (.slice p.I s.ins.length p.cI)).setCell ⟨w.heap.size + 1, 3, none⟩ (.slice p.O s.outs.length p.cO)).setCell ⟨w.heap.size + 1, 4, none⟩ (.int .i64 s.cover)).setCell ⟨w.heap.size + 1, 5, none⟩ (.int .i64 s.dull)).setCell ⟨w.heap.size + 1, 6, none⟩ (.slice Ab (s.lessW pn).before.length cb)) (s.lessW pn) ⟨av, Aa, p.R, p.I, p.O, Ab, ca, p.cR, p.cI, p.cO, cb⟩ := by
            obtain ⟨m1, m2, m3, m4, m5⟩ := g5.small
            refine ⟨hI.eq, g1, g2, g5.rest, g5.ins, g5.outs, g3, fun a ha => ?_, ⟨?_, m2, m3, m4, ?_⟩⟩
            · obtain ⟨j, hj, rfl⟩ := List.mem_map.1 ha
              have hjn : j < s.acts.length := by simpa using (List.mem_filter.1 hj).1
              obtain ⟨b1, b2, b3⟩ := g5.bit hjn
              exact ⟨b1, Nat.le_trans castsW_le b2, fun c hc => b3 c (castsW_sub c hc)⟩
            · show ((s.keptTo pn s.acts.length).map (s.actW pn)).length ≤ 1000
              rw [List.length_map]; omega
            · show (s.befTo pn s.before.length).length ≤ 1000
              omega
          have HR := Lib.hid (HYe.out _ u8 _ hM g4)
          have Hb4 := Lib.hid hb4
          have tb := hI.tb
          have hRz := hR
          have t0 : wr.cell? ⟨w.heap.size + 2, 0, none⟩ = some _ := tb.cell (i := 0) rfl
          have t1 : wr.cell? ⟨w.heap.size + 2, 1, none⟩ = some _ := tb.cell (i := 1) rfl
          have t2 : wr.cell? ⟨w.heap.size + 2, 2, none⟩ = some _ := tb.cell (i := 2) rfl
          have t3 : wr.cell? ⟨w.heap.size + 2, 3, none⟩ = some _ := tb.cell (i := 3) rfl
          have t4 : wr.cell? ⟨w.heap.size + 2, 4, none⟩ = some _ := tb.cell (i := 4) rfl
          have t5 : wr.cell? ⟨w.heap.size + 2, 5, none⟩ = some _ := tb.cell (i := 5) rfl
          have t6 : wr.cell? ⟨w.heap.size + 2, 6, none⟩ = some _ := tb.cell (i := 6) rfl
          have y0 : wr.cell? ⟨w.heap.size + 1, 0, none⟩ = some _ := hRz.cell (i := 0) rfl
          have f0 := hRz.free 0
          have y1 : wr.cell? ⟨w.heap.size + 1, 1, none⟩ = some _ := hRz.cell (i := 1) rfl
          have f1 := hRz.free 1
          have y2 : wr.cell? ⟨w.heap.size + 1, 2, none⟩ = some _ := hRz.cell (i := 2) rfl
          have f2 := hRz.free 2
          have y3 : wr.cell? ⟨w.heap.size + 1, 3, none⟩ = some _ := hRz.cell (i := 3) rfl
          have f3 := hRz.free 3
          have y4 : wr.cell? ⟨w.heap.size + 1, 4, none⟩ = some _ := hRz.cell (i := 4) rfl
          have f4 := hRz.free 4
          have y5 : wr.cell? ⟨w.heap.size + 1, 5, none⟩ = some _ := hRz.cell (i := 5) rfl
          have f5 := hRz.free 5
          have y6 : wr.cell? ⟨w.heap.size + 1, 6, none⟩ = some _ := hRz.cell (i := 6) rfl
          have f6 := hRz.free 6
          have HR4 := Lib.hid hR4
          clear hI hM hR4 hl1 hbw hbw' g1 g2 g3 g4 g5 hb4 hkl hbl hsz tb hR hRz hSw
          go_upto_region 27 with fail
          clear x6
          go_wp2
          have z0 := HR4.out.cell (i := 0) rfl
          have z1 := HR4.out.cell (i := 1) rfl
          have z2 := HR4.out.cell (i := 2) rfl
          have z3 := HR4.out.cell (i := 3) rfl
          have z4 := HR4.out.cell (i := 4) rfl
          have z5 := HR4.out.cell (i := 5) rfl
          have z6 := HR4.out.cell (i := 6) rfl
          refine bodyPost_ret (v := .tuple #[.agg #[.slice Aa (s.lessW pn).acts.length ca, .slice p.R s.rest.length p.cR, .slice p.I s.ins.length p.cI, .slice p.O s.outs.length p.cO, .int .i64 s.cover, .int .i64 s.dull, .slice Ab (s.lessW pn).before.length cb], u8, .int .i64 (-1)]) (by simp [results, Try.results38, go_sem, z0, z1, z2, z3, z4, z5, z6]) rfl ?_
          exact ⟨HR.out, Hb4.out⟩
end Go.Proofs.Ytcnidhcdkbfpcaa

/- Walk: the best programme with its table. -/
import Derived.Test.YtcnidhcdkbfpcaaPrhB
namespace Go.Proofs.Ytcnidhcdkbfpcaa
open Go.RowKit Go.Bs Go.Pg Go.Pl Go.Sort
set_option maxRecDepth 100000 in
set_option maxHeartbeats 2000000 in
theorem Best_any (s : Sh) (p : ShP) (w : World) (h : ShM w s p) :
    Calls Try.prog 16 #[shV s p] w fun e w' => ∃ v, e = .returned v ∧ BestR w s v w' := by
  obtain ⟨U, hU, hall⟩ := Solve_any
  have hb0 := ext_alloc w (.cells (shC s p).toArray 35)
  have hS := Blk.new w 35 (shC s p)
  have CV := Lib.hid (fun W (hW : Below w.heap.size w W) => valid_any s p W (h.ext hW))
  have Hall := Lib.hid (fun (hok : s.Ok) W (hW : Below w.heap.size w W) => hall s p W (h.ext hW) hok)
  have Hok := Lib.hid (fun (e : s.okB = true) => Sh.ok_of e)
  have Hsh := Lib.hid h
  clear h hall
  unfold shV at *
  unfold shC at *
  go_enter Try.func16, Try.ntmps16
  go_upto_region 1 with fail
  have hs0 : (w.alloc (.cells #[.slice p.A s.acts.length p.cA, .slice p.R s.rest.length p.cR, .slice p.I s.ins.length p.cI, .slice p.O s.outs.length p.cO, .int .i64 s.cover, .int .i64 s.dull, .slice p.B s.before.length p.cB] 35)).heap.size = w.heap.size + 1 := by simp
  change Blk (w.alloc (.cells #[.slice p.A s.acts.length p.cA, .slice p.R s.rest.length p.cR, .slice p.I s.ins.length p.cI, .slice p.O s.outs.length p.cO, .int .i64 s.cover, .int .i64 s.dull, .slice p.B s.before.length p.cB] 35)) _ _ _ at hS
  generalize w.alloc (.cells #[.slice p.A s.acts.length p.cA, .slice p.R s.rest.length p.cR, .slice p.I s.ins.length p.cI, .slice p.O s.outs.length p.cO, .int .i64 s.cover, .int .i64 s.dull, .slice p.B s.before.length p.cB] 35) = V0 at *
  have q0 : V0.cell? ⟨w.heap.size, 0, none⟩ = _ := hS.cell (i := 0) rfl
  have q1 : V0.cell? ⟨w.heap.size, 1, none⟩ = _ := hS.cell (i := 1) rfl
  have q2 : V0.cell? ⟨w.heap.size, 2, none⟩ = _ := hS.cell (i := 2) rfl
  have q3 : V0.cell? ⟨w.heap.size, 3, none⟩ = _ := hS.cell (i := 3) rfl
  have q4 : V0.cell? ⟨w.heap.size, 4, none⟩ = _ := hS.cell (i := 4) rfl
  have q5 : V0.cell? ⟨w.heap.size, 5, none⟩ = _ := hS.cell (i := 5) rfl
  have q6 : V0.cell? ⟨w.heap.size, 6, none⟩ = _ := hS.cell (i := 6) rfl
  have Hs0 := Lib.hid hs0
  clear hs0
  cases hkb : s.okB
  · go_wp2_with fail
    refine (CV.out V0 hb0).mono ?_; rintro e V1 ⟨rfl, hx1⟩
    rw [hkb]
    have hb1 := hb0.trans (hx1.mono hb0.size)
    have Hkb := Lib.hid hkb
    clear hkb
    go_wp2
    refine bodyPost_ret (v := .tuple #[.slice none 0 0, .int .i64 0, .slice none 0 0, .int .i64 1]) (by simp [results, Try.results16, go_sem]) rfl ?_
    exact ⟨_, rfl, hb1, .inl ⟨Hkb.out, rfl⟩⟩
  · go_wp2_with fail
    refine (CV.out V0 hb0).mono ?_; rintro e V1 ⟨rfl, hx1⟩
    rw [hkb]
    have hok := Hok.out hkb
    have Hkb := Lib.hid hkb
    clear hkb
    have hb1 := hb0.trans (hx1.mono hb0.size)
    have hS1 := hS.ext hx1
    clear q0 q1 q2 q3 q4 q5 q6 hb0 hS
    have q0 : V1.cell? ⟨w.heap.size, 0, none⟩ = _ := hS1.cell (i := 0) rfl
    have q1 : V1.cell? ⟨w.heap.size, 1, none⟩ = _ := hS1.cell (i := 1) rfl
    have q2 : V1.cell? ⟨w.heap.size, 2, none⟩ = _ := hS1.cell (i := 2) rfl
    have q3 : V1.cell? ⟨w.heap.size, 3, none⟩ = _ := hS1.cell (i := 3) rfl
    have q4 : V1.cell? ⟨w.heap.size, 4, none⟩ = _ := hS1.cell (i := 4) rfl
    have q5 : V1.cell? ⟨w.heap.size, 5, none⟩ = _ := hS1.cell (i := 5) rfl
    have q6 : V1.cell? ⟨w.heap.size, 6, none⟩ = _ := hS1.cell (i := 6) rfl
    have CS := Lib.hid (Hall.out hok V1 hb1).1
    have Hof := Lib.hid (Hall.out hok V1 hb1).2
    have Hok2 := Lib.hid hok
    have hz1 : w.heap.size < V1.heap.size := hS1.lt
    clear Hall Hok hok CV hx1
    go_upto_region 3 with fail
    go_wp2_with fail
    refine CS.out.mono ?_; rintro e V2 ⟨v, rfl, F, S, G, O, B, n0, hof, hm, hn0, hc⟩
    rcases hc with ⟨hnone, rfl⟩ | ⟨l, sl, hsome, hown, rfl⟩
    · unfold ofV
      have Hn := Lib.hid hnone
      clear hnone
      go_wp2
      refine bodyPost_ret (v := .tuple #[.slice none 0 0, .int .i64 0, .slice none 0 0, .int .i64 7]) (by simp [results, Try.results16, go_sem]) rfl ?_
      exact ⟨_, rfl, hb1.trans (hof.bl.mono hb1.size), .inr (.inl ⟨Hkb.out, Hn.out, rfl⟩)⟩
    · unfold ofV
      have Hsome := Lib.hid hsome
      have hS2 : Blk V2 w.heap.size 35 _ := (hof.bl.block _ hS1.lt).trans hS1
      have Hof2 := Lib.hid (fun z hz => Hof.out V1 F S G O B (Hsh.out.ext hb1) z hz)
      clear hsome q0 q1 q2 q3 q4 q5 q6 hS1 CS Hof
      have hBz := hof.hB
      have hBl := hm.lt
      have Hst := Lib.hid (show BtI V1 s p F S G O B w.heap.size sl l V2.heap.size V2.heap.size [] (.slice none 0 0) (200 * U + 0 * (64 * U)) V2 from
        ⟨hof, hm.mono (by omega), hS2, hown, fun g hg => (hown.lt hg).2, TabM.nil, hBl, by omega, hof.bl.size, Nat.le_refl _, Nat.le_refl _⟩)
      have hn8 := Hok2.out.n8
      have CW := Lib.hid (fun W => whole_any s p W hn8)
      unfold shV at CW
      have q0 : V2.cell? ⟨w.heap.size, 0, none⟩ = _ := hS2.cell (i := 0) rfl
      have q1 : V2.cell? ⟨w.heap.size, 1, none⟩ = _ := hS2.cell (i := 1) rfl
      have q2 : V2.cell? ⟨w.heap.size, 2, none⟩ = _ := hS2.cell (i := 2) rfl
      have q3 : V2.cell? ⟨w.heap.size, 3, none⟩ = _ := hS2.cell (i := 3) rfl
      have q4 : V2.cell? ⟨w.heap.size, 4, none⟩ = _ := hS2.cell (i := 4) rfl
      have q5 : V2.cell? ⟨w.heap.size, 5, none⟩ = _ := hS2.cell (i := 5) rfl
      have q6 : V2.cell? ⟨w.heap.size, 6, none⟩ = _ := hS2.cell (i := 6) rfl
      have hl2 := hof.bl.size
      have hb2 := hb1.trans (hof.bl.mono hb1.size)
      generalize V2.heap.size = lo at *
      have hwh : s.whole ≤ 255 := by
        unfold Sh.whole
        have := Nat.pow_le_pow_right (n := 2) (by omega) hn8
        omega
      generalize hWh : s.whole = wh at *
      clear hof hm hown hS2
      go_upto_region 7 with fail
      go_wp2_with fail
      refine (CW.out V2).mono ?_; rintro e V3 ⟨rfl, hx3⟩
      have HI := Lib.hid (Hst.out.ext hx3)
      clear q0 q1 q2 q3 q4 q5 q6 Hst hx3 CW
      have hmk := fun W => mk23n (s.acts.length * s.acts.length) (Nat.le_trans (Nat.mul_le_mul hn8 hn8) (by decide)) W
      rw [Int.natCast_mul] at hmk
      have hnn : 0 ≤ (s.acts.length : Int) * s.acts.length ∧ (s.acts.length : Int) * s.acts.length ≤ 64 := by
        have := Nat.mul_le_mul hn8 hn8
        rw [← Int.natCast_mul]
        omega
      have HU := Lib.hid hU
      clear hU
      go_wp2
      go_loopw [4, 33] (fun v t wr => ∃ (k hi : Nat), t = .int .i64 k ∧ k ≤ wh + 1 ∧ BtI V1 s p F S G O B w.heap.size sl l lo hi ((List.range k).map s.rowV) v (200 * U + k * (64 * U)) wr) (fun _ t _ => wh + 1 - (intOf t).toNat)
      case atStart => exact ⟨0, _, rfl, by omega, HI.out⟩
      case round =>
        obtain ⟨k, hi, rfl, hk, hB⟩ := hrel
        by_cases hlt : k < wh + 1
        · have hlt' : (k : Int) < (wh : Int) + 1 := by omega
          go_upto_region 10 with fail
          go_upto_region 11 with fail
          have hR := Blk.new wr 3 ((tab (s.acts.length * s.acts.length) fun _ => 0).map (Value.int .i64))
          have hBa := hB.ext (ext_alloc wr (.cells ((tab (s.acts.length * s.acts.length) fun _ => 0).map (Value.int .i64)).toArray 3))
          have hRz : hi ≤ wr.heap.size := hB.hhi.2
          generalize wr.alloc (.cells ((tab (s.acts.length * s.acts.length) fun _ => 0).map (Value.int .i64)).toArray 3) = W1 at *
          rw [← rowTo_zero s k] at hR
          clear hB
          generalize wr.heap.size = R at *
          have Ha0 := Lib.hid (And.intro hBa hR)
          have Hmk := Lib.hid hmk
          clear hBa hR hmk
          have hkw : IntKind.u16.wrap (k : Int) = k := by rw [IntKind.wrap_u16]; omega
          have hk0 : (0 : Int) ≤ k := by omega
          go_wp2
          go_loopw [41] (fun t wa => ∃ a : Nat, t = .int .i64 a ∧ a ≤ s.acts.length ∧ BtI V1 s p F S G O B w.heap.size sl l lo hi ((List.range k).map s.rowV) u4 (200 * U + k * (64 * U) + a * (8 * U)) wa ∧ Blk wa R 3 ((rowTo s k (a * s.acts.length)).map (Value.int .i64))) (fun t _ => s.acts.length - (intOf t).toNat)
          case atStart => exact ⟨0, rfl, by omega, by rw [Nat.zero_mul, Nat.add_zero]; exact Ha0.out.1, by rw [Nat.zero_mul]; exact Ha0.out.2⟩
          case round =>
            obtain ⟨a, rfl, ha, hBr, hRr⟩ := hrel
            by_cases hlta : a < s.acts.length
            · have hlta' : (a : Int) < (s.acts.length : Int) := by omega
              have Hb0 := Lib.hid (And.intro hBr hRr)
              clear hBr hRr
              generalize wr = w4 at *
              go_upto_region 14 with fail
              go_wp2
              go_loopw [45] (fun t wb => ∃ b : Nat, t = .int .i64 b ∧ b ≤ s.acts.length ∧ BtI V1 s p F S G O B w.heap.size sl l lo hi ((List.range k).map s.rowV) u4 (200 * U + k * (64 * U) + a * (8 * U) + b * U) wb ∧ Blk wb R 3 ((rowTo s k (a * s.acts.length + b)).map (Value.int .i64))) (fun t _ => s.acts.length - (intOf t).toNat)
              case atStart => exact ⟨0, rfl, by omega, by rw [Nat.zero_mul, Nat.add_zero]; exact Hb0.out.1, Hb0.out.2⟩
              case round =>
                obtain ⟨b, rfl, hb, hBs, hRs⟩ := hrel
                by_cases hltb : b < s.acts.length
                · have hltb' : (b : Int) < (s.acts.length : Int) := by omega
                  go_upto_region 18 with fail
                  have hY := Blk.new wr 90 [.int .u16 k, .int .i64 a, .int .i64 b]
                  have hBy := hBs.ext (ext_alloc wr (.cells #[.int .u16 k, .int .i64 a, .int .i64 b] 90))
                  have hRy := hRs.ext (ext_alloc wr (.cells #[.int .u16 k, .int .i64 a, .int .i64 b] 90))
                  change Blk (wr.alloc (.cells #[.int .u16 k, .int .i64 a, .int .i64 b] 90)) _ _ _ at hY
                  generalize wr.alloc (.cells #[.int .u16 k, .int .i64 a, .int .i64 b] 90) = W5 at *
                  have y0 : W5.cell? ⟨wr.heap.size, 0, none⟩ = _ := hY.cell (i := 0) rfl
                  have y1 : W5.cell? ⟨wr.heap.size, 1, none⟩ = _ := hY.cell (i := 1) rfl
                  have y2 : W5.cell? ⟨wr.heap.size, 2, none⟩ = _ := hY.cell (i := 2) rfl
                  have hx : StOk s ⟨k, a, b⟩ := ⟨by show k < _; unfold Sh.whole at hWh; have := Nat.two_pow_pos s.acts.length; omega, hlta, hltb⟩
                  have CR := Lib.hid (real_any s ⟨k, a, b⟩ W5 hx Hok2.out)
                  have CO := Lib.hid (Hof2.out _ hx)
                  unfold OfC at CO
                  unfold St.val at CR CO
                  have hab := idx_lt hlta hltb
                  have hrl := rowTo_len s k (a * s.acts.length + b)
                  have haq := Nat.mul_le_mul (show a ≤ 8 by omega) hn8
                  have hmo : (b + 1) * U = b * U + U := by rw [Nat.add_mul, Nat.one_mul]
                  have hbx := Sh.best_bd Hok2.out ⟨k, a, b⟩
                  have hbound : 200 * U + k * (64 * U) + a * (8 * U) + b * U + U ≤ 1000000000000000000 := by
                    have e1 : k * (64 * U) ≤ 255 * (64 * U) := Nat.mul_le_mul_right _ (by omega)
                    have e2 : a * (8 * U) ≤ 8 * (8 * U) := Nat.mul_le_mul_right _ (by omega)
                    have e3 : b * U ≤ 8 * U := Nat.mul_le_mul_right _ (by omega)
                    have := HU.out
                    omega
                  clear hBs hRs hY hx
                  cases hr : Sh.real ⟨k, a, b⟩
                  · have Hmiss := Lib.hid (rowTo_miss hltb hr)
                    go_wp2_with fail
                    refine CR.out.mono ?_; rintro e W6 ⟨rfl, hx6⟩
                    rw [hr]
                    clear hr
                    go_wp2
                    go_roundw
                    case rel => exact ⟨b + 1, by go_num, by omega, (hBy.ext hx6).mono (by omega), by rw [show a * s.acts.length + (b + 1) = a * s.acts.length + b + 1 by omega, Hmiss.out]; exact hRy.ext hx6⟩
                    case measure => simp [intOf]; omega
                  · have Hhit := Lib.hid (rowTo_hit hltb hr)
                    go_wp2_with fail
                    refine CR.out.mono ?_; rintro e W6 ⟨rfl, hx6⟩
                    rw [hr]
                    clear hr
                    have hB6 := hBy.ext hx6
                    have hR6 := hRy.ext hx6
                    have z0 := cell_ext y0 hx6
                    have z1 := cell_ext y1 hx6
                    have z2 := cell_ext y2 hx6
                    clear y0 y1 y2 hBy hRy hx6
                    obtain ⟨q, hq⟩ : ∃ q : Nat, q = a * s.acts.length := ⟨_, rfl⟩
                    have hqi : (a : Int) * (s.acts.length : Int) = (q : Int) := by rw [hq, Int.natCast_mul]
                    rw [← hq] at hab haq hR6 Hhit
                    have hqn : q + b < s.acts.length * s.acts.length := hab
                    have hqm : (q : Int) + (b : Int) < (s.acts.length : Int) * (s.acts.length : Int) := by rw [← Int.natCast_mul]; omega
                    have Hq := Lib.hid hq
                    clear hq
                    go_upto_region 19 with fail
                    go_wp2_with fail
                    refine (CO.out _ W6 hB6.of hB6.mp hbound).mono ?_; rintro e W7 ⟨rfl, hx7, hm7⟩
                    have hB7 := hB6.bel hx7 hm7
                    have hR7 := hx7.blk hR6 (by have := hB6.hB; have := hB6.hhi; simp; omega)
                    have f0 := hR7.free (q + b)
                    have c0 : W7.cell? ⟨R, q + b, none⟩ = some (.int .i64 ((rowTo s k (q + b))[q + b]'(by rw [← Hq.out] at hrl; omega))) := hR7.cell (by simp)
                    clear hB6 hR6 z0 z1 z2 hx7 hm7
                    go_wp2
                    go_roundw
                    case rel => exact ⟨b + 1, by go_num, by omega, (hB7.put hR7 hRz (q + b) _).mono (by omega), by
                      rw [← Hq.out, show q + (b + 1) = q + b + 1 by omega, Hhit.out, List.map_set]
                      exact hR7.set (q + b) _⟩
                    case measure => simp [intOf]; omega
                · obtain rfl : b = s.acts.length := by omega
                  have hbU : s.acts.length * U ≤ 8 * U := Nat.mul_le_mul_right _ hn8
                  have haU : (a + 1) * (8 * U) = a * (8 * U) + 8 * U := by rw [Nat.add_mul, Nat.one_mul]
                  have hBs2 := Lib.hid (hBs.mono (m' := 200 * U + k * (64 * U) + (a + 1) * (8 * U)) (by omega))
                  have hRs2 := Lib.hid (show Blk wr R 3 ((rowTo s k ((a + 1) * s.acts.length)).map (Value.int .i64)) by rw [Nat.add_mul, Nat.one_mul]; exact hRs)
                  clear hBs hRs hbU haU
                  go_wp2
                  go_roundw
                  case rel => exact ⟨a + 1, by go_num, by omega, hBs2.out, hRs2.out⟩
                  case measure => simp [intOf]; omega
            · obtain rfl : a = s.acts.length := by omega
              have hkU : (k + 1) * (64 * U) = k * (64 * U) + 64 * U := by rw [Nat.add_mul, Nat.one_mul]
              have hnU : s.acts.length * (8 * U) ≤ 8 * (8 * U) := Nat.mul_le_mul_right _ hn8
              have hBr2 := hBr.mono (m' := 200 * U + (k + 1) * (64 * U)) (by omega)
              rw [rowTo_end] at hRr
              have hsnoc : (List.range k).map s.rowV ++ [s.rowV k] = (List.range (k + 1)).map s.rowV := by rw [List.range_succ, List.map_append]; rfl
              have Hsn := Lib.hid hsnoc
              have hB9 := hBr2.ext (ext_alloc wr (.cells #[.slice (some ⟨R, 0, none⟩) (s.acts.length * s.acts.length) (s.acts.length * s.acts.length)] 23))
              have hR9 := hRr.ext (ext_alloc wr (.cells #[.slice (some ⟨R, 0, none⟩) (s.acts.length * s.acts.length) (s.acts.length * s.acts.length)] 23))
              have hnew := Blk.new wr 23 [.slice (some ⟨R, 0, none⟩) (s.acts.length * s.acts.length) (s.acts.length * s.acts.length)]
              obtain ⟨rs, h1, h2, h3, h4⟩ := hB9.tab
              have hrl : (s.rowV k).length = s.acts.length * s.acts.length := by unfold Sh.rowV; simp
              have hlr := hBr.hhi
              have h3k : rs.length = k := by rw [h3]; simp
              have Hb9 := Lib.hid hB9
              have Hp := Lib.hid (And.intro h2 (And.intro h3 h4))
              have Hrl := Lib.hid hrl
              clear hBr hBr2 hRr hsnoc hkU hnU hB9 h2 h3 h4 hrl Ha0
              have H3k := Lib.hid h3k
              have hrs6 : rs.length ≤ 1000000 := by omega
              clear h3k
              go_upto_region 22 with fail
              go_wp2_with (at_builtin; refine app1 encR 29 23 1 24 et29 (by decide) (by decide) encR_len encR_one rfl _ _ rfl lo _ rs rfl h1 wr.heap.size rfl (R, s.acts.length * s.acts.length) (fun j u hj => hnew.cell hj) (by omega) (by simp; omega) ?_; intro g' cap' V9 hown' hb7 hgr7 hat7; have HF := Lib.hid (Hb9.out.app hR9 (by omega) Hp.out.1 Hp.out.2.1 Hp.out.2.2 h1 (by rw [Hrl.out]; exact hown') hgr7))
              go_roundw
              case rel => exact ⟨k + 1, _, by go_num, by omega, by rw [← Hsn.out]; exact HF.out⟩
              case measure => simp [intOf]; omega
        · obtain rfl : k = wh + 1 := by omega
          go_wp2
          refine bodyPost_ret (v := .tuple #[sl, .int .i64 s.least, u4, .int .i64 0]) (by simp [results, Try.results16, go_sem]) rfl ?_
          have hlo := hB.hlo
          exact ⟨_, rfl, hb1.trans (hB.of.bl.mono hb1.size), .inr (.inr ⟨Hkb.out, l, sl, u4, hi, Hsome.out, OwnL.up hB.ord (by omega), by unfold Sh.tabV; rw [hWh]; exact hB.tab.grow (by omega) (Nat.le_refl _), rfl⟩)⟩
end Go.Proofs.Ytcnidhcdkbfpcaa

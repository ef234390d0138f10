/- Walks: Right, Order, Change of the reference. -/
import Derived.Test.YtilkoooahoecfaaGreatPgI
/- Walk: the reference's Right. -/
namespace Go.Proofs.YtilkoooahoecfaaGreat
open Go.RowKit Go.Bs Go.Pg Go.Pl Go.Sort
theorem take_all {α : Type} {p : α → Prop} {l : List α} {i : Nat} (h : i < l.length) (h1 : ∀ x ∈ l.take i, p x) (h2 : p l[i]) : ∀ x ∈ l.take (i + 1), p x := by
  intro x hx
  rw [List.take_succ_eq_append_getElem h] at hx
  rcases List.mem_append.1 hx with hx | hx
  · exact h1 x hx
  · simp at hx; rw [hx]; exact h2
theorem btw_no {n lo hi : Int} (h : btw n lo hi = false) : ¬ (lo ≤ n ∧ n ≤ hi) := fun h2 => by rw [btw_iff.2 h2] at h; cases h
set_option maxRecDepth 100000 in
set_option maxHeartbeats 4000000 in
theorem Right_any (s : Sh) (p : ShP) (w : World) (h : ShM w s p) : Calls Tryz.prog 5 #[shV s p] w fun e w' => e = .returned (.bool s.okB) ∧ Below w.heap.size w w' := by
  obtain ⟨m1, m2, m3, m4, m5⟩ := h.small
  have hb0 := ext_alloc w (.cells (shC s p).toArray 26)
  have hS := Blk.new w 26 (shC s p)
  generalize hres : s.okB = res
  have Hf := Lib.hid (show res = true → s.Ok from fun hr => Sh.ok_of (hres.trans hr))
  have Ht := Lib.hid (show s.Ok → res = true from fun hr => hres.symm.trans (Sh.ok_iff.2 hr))
  clear hres
  have Hbits := Lib.hid h.bits
  unfold shV at *
  unfold shC at *
  go_enter Tryz.func5, Tryz.ntmps5
  go_upto_region 1 with fail
  have Hh := Lib.hid (h.ext hb0)
  clear h
  change Blk (w.alloc (.cells #[.slice p.A s.acts.length p.cA, .slice p.R s.rest.length p.cR, .slice p.I s.ins.length p.cI, .slice p.O s.outs.length p.cO, .int .i64 s.cover, .int .i64 s.dull, .slice p.B s.before.length p.cB] 26)) _ _ _ at hS
  generalize w.alloc (.cells #[.slice p.A s.acts.length p.cA, .slice p.R s.rest.length p.cR, .slice p.I s.ins.length p.cI, .slice p.O s.outs.length p.cO, .int .i64 s.cover, .int .i64 s.dull, .slice p.B s.before.length p.cB] 26) = W0 at *
  have x1 : W0.cell? ⟨w.heap.size, 1, none⟩ = _ := hS.cell (i := 1) rfl
  go_wp2
  go_loopw [3] (fun t wr => ∃ i : Nat, t = .int .i64 i ∧ i ≤ s.rest.length ∧ Hid (∀ x ∈ s.rest.take i, 0 ≤ x ∧ x ≤ 2) ∧ wr = W0) (fun t _ => s.rest.length - (intOf t).toNat)
  case atStart => exact ⟨0, rfl, by omega, Lib.hid (by simp), rfl⟩
  case round =>
    obtain ⟨i, rfl, hi, Hk, rfl⟩ := hrel
    by_cases hlt : i < s.rest.length
    · have hlt' : (i : Int) < (s.rest.length : Int) := by omega
      have hi0 : (0 : Int) ≤ i := by omega
      obtain ⟨b, off, hR, hbl, c0⟩ := Hh.out.rest.at1 hlt rfl
      rw [hR] at x1
      have CI := Lib.hid (In_any s.rest[i] 0 2 wr)
      cases hb : btw s.rest[i] 0 2
      · have Hr := Lib.hid (show res = false by
          cases hr : res
          · rfl
          · exact absurd ((Hf.out hr).rest _ (List.getElem_mem hlt)) (btw_no hb))
        rw [hb] at CI
        clear hb hR
        go_wp2_with fail
        refine CI.out.mono ?_; rintro e w1 ⟨rfl, rfl⟩
        go_wp2
        go_ret
        exact ⟨ret_congr (bool_congr Hr.out.symm), hb0⟩
      · have Hn := Lib.hid (take_all hlt Hk.out (btw_iff.1 hb))
        rw [hb] at CI
        clear hb hR
        go_wp2_with fail
        refine CI.out.mono ?_; rintro e w1 ⟨rfl, rfl⟩
        go_wp2
        go_roundw
        case rel => exact ⟨i + 1, by go_num, by omega, Hn, by first | rfl | trivial⟩
        case measure => simp [intOf]; omega
    · obtain rfl : i = s.rest.length := by omega
      have hk := Hk.out
      rw [List.take_length] at hk
      have Hrest := Lib.hid hk
      clear hk Hk hlt hi
      have x2 : wr.cell? ⟨w.heap.size, 2, none⟩ = _ := hS.cell (i := 2) rfl
      have x3 : wr.cell? ⟨w.heap.size, 3, none⟩ = _ := hS.cell (i := 3) rfl
      go_upto_region 6 with fail
      by_cases q1 : s.rest.length ≤ 16
      rotate_left
      · have q1' : (s.rest.length : Int) > 16 := by omega
        have Hr := Lib.hid (show res = false by
          cases hr : res
          · rfl
          · exact absurd (Hf.out hr).r16 q1)
        go_wp2
        go_ret
        exact ⟨ret_congr (bool_congr Hr.out.symm), hb0⟩
      have q1' : ¬ (s.rest.length : Int) > 16 := by omega
      by_cases q2 : s.ins.length ≤ 10
      rotate_left
      · have q2' : (s.ins.length : Int) > 10 := by omega
        have Hr := Lib.hid (show res = false by
          cases hr : res
          · rfl
          · exact absurd (Hf.out hr).i10 q2)
        go_wp2
        go_ret
        exact ⟨ret_congr (bool_congr Hr.out.symm), hb0⟩
      have q2' : ¬ (s.ins.length : Int) > 10 := by omega
      by_cases q3 : s.outs.length = s.ins.length
      rotate_left
      · have q3' : ((s.ins.length : Int) != (s.outs.length : Int)) = true := by simp; omega
        have Hr := Lib.hid (show res = false by
          cases hr : res
          · rfl
          · exact absurd (Hf.out hr).oi q3)
        go_wp2
        go_ret
        exact ⟨ret_congr (bool_congr Hr.out.symm), hb0⟩
      have q3' : ((s.ins.length : Int) != (s.outs.length : Int)) = false := by simp; omega
      have Hoi := Lib.hid q3
      clear q3
      go_upto_block 2 with fail
      go_wp2
      go_loopw [4] (fun t wq => ∃ i : Nat, t = .int .i64 i ∧ i ≤ s.ins.length ∧ Hid (∀ x ∈ s.ins.take i, 0 ≤ x ∧ x ≤ 30) ∧ Hid (∀ x ∈ s.outs.take i, 0 ≤ x ∧ x ≤ 30) ∧ wq = wr) (fun t _ => s.ins.length - (intOf t).toNat)
      case atStart => exact ⟨0, rfl, by omega, Lib.hid (by simp), Lib.hid (by simp), rfl⟩
      case round =>
        obtain ⟨i, rfl, hi, Hk, Hk2, rfl⟩ := hrel
        by_cases hlt : i < s.ins.length
        · have hlt' : (i : Int) < (s.ins.length : Int) := by omega
          have hlo : i < s.outs.length := by rw [Hoi.out]; exact hlt
          have hlo' : (i : Int) < (s.outs.length : Int) := by omega
          have hi0 : (0 : Int) ≤ i := by omega
          obtain ⟨b, off, hR, hbl, c0⟩ := Hh.out.ins.at1 hlt rfl
          obtain ⟨b2, off2, hR2, hbl2, d0⟩ := Hh.out.outs.at1 hlo rfl
          rw [hR] at x2
          rw [hR2] at x3
          have CI := Lib.hid (In_any s.ins[i] 0 30 wr)
          have CJ := Lib.hid (In_any s.outs[i] 0 30 wr)
          cases hb : btw s.ins[i] 0 30
          · have Hr := Lib.hid (show res = false by
              cases hr : res
              · rfl
              · exact absurd ((Hf.out hr).ins _ (List.getElem_mem hlt)) (btw_no hb))
            rw [hb] at CI
            clear hb hR hR2
            go_wp2_with fail
            refine CI.out.mono ?_; rintro e w1 ⟨rfl, rfl⟩
            go_wp2
            go_ret
            exact ⟨ret_congr (bool_congr Hr.out.symm), hb0⟩
          · have Hn := Lib.hid (take_all hlt Hk.out (btw_iff.1 hb))
            rw [hb] at CI
            cases hb2 : btw s.outs[i] 0 30
            · have Hr := Lib.hid (show res = false by
                cases hr : res
                · rfl
                · exact absurd ((Hf.out hr).outs _ (List.getElem_mem hlo)) (btw_no hb2))
              rw [hb2] at CJ
              clear hb hb2 hR hR2
              go_wp2_with fail
              refine CI.out.mono ?_; rintro e w1 ⟨rfl, rfl⟩
              go_wp2_with fail
              refine CJ.out.mono ?_; rintro e w1 ⟨rfl, rfl⟩
              go_wp2
              go_ret
              exact ⟨ret_congr (bool_congr Hr.out.symm), hb0⟩
            · have Hn2 := Lib.hid (take_all hlo Hk2.out (btw_iff.1 hb2))
              rw [hb2] at CJ
              clear hb hb2 hR hR2
              go_wp2_with fail
              refine CI.out.mono ?_; rintro e w1 ⟨rfl, rfl⟩
              go_wp2_with fail
              refine CJ.out.mono ?_; rintro e w1 ⟨rfl, rfl⟩
              go_wp2
              go_roundw
              case rel => exact ⟨i + 1, by go_num, by omega, Hn, Hn2, by first | rfl | trivial⟩
              case measure => simp [intOf]; omega
        · obtain rfl : i = s.ins.length := by omega
          have hk := Hk.out
          have hk2 := Hk2.out
          rw [List.take_length] at hk
          rw [← Hoi.out, List.take_length] at hk2
          have Hins := Lib.hid hk
          have Houts := Lib.hid hk2
          clear hk hk2 Hk Hk2 hlt hi q1' q2' q3'
          go_upto_block 4 with fail
          generalize wr = V at *
          have x0 : V.cell? ⟨w.heap.size, 0, none⟩ = _ := hS.cell (i := 0) rfl
          have x6 : V.cell? ⟨w.heap.size, 6, none⟩ = _ := hS.cell (i := 6) rfl
          have x4 : V.cell? ⟨w.heap.size, 4, none⟩ = _ := hS.cell (i := 4) rfl
          have x5 : V.cell? ⟨w.heap.size, 5, none⟩ = _ := hS.cell (i := 5) rfl
          have Hb0 := Lib.hid hb0
          clear hb0 x0 x1 x2 x3 x4 x5 x6
          go_wp2
          go_loopw [5] (fun t wq => ∃ i : Nat, t = .int .i64 i ∧ i ≤ s.acts.length ∧ Hid (∀ a ∈ s.acts.take i, s.AcOk a) ∧ Below V.heap.size V wq) (fun t _ => s.acts.length - (intOf t).toNat)
          case atStart => exact ⟨0, rfl, by omega, Lib.hid (by simp), Below.refl _ _⟩
          case round =>
            obtain ⟨i, rfl, hi, Hk, hbr⟩ := hrel
            have hSr := hS.ext hbr
            by_cases hlt : i < s.acts.length
            · have hlt' : (i : Int) < (s.acts.length : Int) := by omega
              have hi0 : (0 : Int) ≤ i := by omega
              obtain ⟨x, hxm, hxa, b, off, hA, hbl, c0, c1, c2, c3, c4, hcc⟩ := (Hh.out.ext hbr).av' hlt
              obtain ⟨hr6, hc3, hcb⟩ := Hh.out.bit hlt
              have hmem : s.act i ∈ s.acts := by rw [Sh.act_eq hlt]; exact List.getElem_mem hlt
              have x0 : wr.cell? ⟨w.heap.size, 0, none⟩ = some (.slice (some ⟨b, off, none⟩) s.acts.length p.cA) := by rw [← hA]; exact hSr.cell (i := 0) rfl
              rw [← hxa] at hr6 hc3 hcb hmem
              have Hak := Lib.hid (show s.AcOk x.a → ∀ a ∈ s.acts.take (i + 1), s.AcOk a from fun ho => take_all hlt Hk.out (by rw [← Sh.act_eq hlt, ← hxa]; exact ho))
              have Hno := Lib.hid (show ¬ s.AcOk x.a → res = false from fun hn => by
                cases hr : res
                · rfl
                · exact absurd (Sh.staged_iff.1 ((Hf.out hr).acts _ hmem)) hn)
              clear hxa hA hxm hmem Hk
              have hbz := ext_alloc wr (.cells #[.int .i64 x.a.min, .int .i64 x.a.ten, .int .u16 x.a.rigs, .slice x.C x.a.casts.length x.c, .bool x.a.spare] 40)
              have hZ : Blk (wr.alloc (.cells #[.int .i64 x.a.min, .int .i64 x.a.ten, .int .u16 x.a.rigs, .slice x.C x.a.casts.length x.c, .bool x.a.spare] 40)) wr.heap.size 40 [.int .i64 x.a.min, .int .i64 x.a.ten, .int .u16 x.a.rigs, .slice x.C x.a.casts.length x.c, .bool x.a.spare] := Blk.new wr 40 _
              have hb1 := hbr.trans (hbz.mono hbr.size)
              have hS1 := hSr.ext hbz
              have hcc1 := hcc.ext hbz
              go_upto_region 17 with fail
              clear x0 c0 c1 c2 c3 c4 hbz hbr hSr hcc hbl
              generalize wr.alloc (.cells #[.int .i64 x.a.min, .int .i64 x.a.ten, .int .u16 x.a.rigs, .slice x.C x.a.casts.length x.c, .bool x.a.spare] 40) = W1 at *
              generalize wr.heap.size = Z at *
              have z0 : W1.cell? ⟨Z, 0, none⟩ = _ := hZ.cell (i := 0) rfl
              have z1 : W1.cell? ⟨Z, 1, none⟩ = _ := hZ.cell (i := 1) rfl
              have z2 : W1.cell? ⟨Z, 2, none⟩ = _ := hZ.cell (i := 2) rfl
              have z3 : W1.cell? ⟨Z, 3, none⟩ = _ := hZ.cell (i := 3) rfl
              have x2 : W1.cell? ⟨w.heap.size, 2, none⟩ = _ := hS1.cell (i := 2) rfl
              have hb9 := Hb0.out.trans (hb1.mono Hb0.out.size)
              have C1 := Lib.hid (In_any x.a.min 1 60 W1)
              have C2 := Lib.hid (In_any x.a.ten 0 100 W1)
              have C3 := Lib.hid (below_any x.a.rigs s.ins.length W1 hr6 (by omega))
              cases e1 : btw x.a.min 1 60
              · have Hr := Lib.hid (Hno.out (fun ho => btw_no e1 ho.min))
                rw [e1] at C1
                clear e1
                go_wp2_with fail
                refine C1.out.mono ?_; rintro e w1 ⟨rfl, rfl⟩
                go_wp2
                go_ret
                exact ⟨ret_congr (bool_congr Hr.out.symm), hb9⟩
              have E1 := Lib.hid (btw_iff.1 e1)
              rw [e1] at C1
              clear e1
              cases e2 : btw x.a.ten 0 100
              · have Hr := Lib.hid (Hno.out (fun ho => btw_no e2 ho.ten))
                rw [e2] at C2
                clear e2
                go_wp2_with fail
                refine C1.out.mono ?_; rintro e w1 ⟨rfl, rfl⟩
                go_wp2_with fail
                refine C2.out.mono ?_; rintro e w1 ⟨rfl, rfl⟩
                go_wp2
                go_ret
                exact ⟨ret_congr (bool_congr Hr.out.symm), hb9⟩
              have E2 := Lib.hid (btw_iff.1 e2)
              rw [e2] at C2
              clear e2
              cases e3 : fitsB x.a.rigs s.ins.length
              · have Hr := Lib.hid (Hno.out (fun ho => by rw [fits_iff.2 ho.rigs] at e3; cases e3))
                rw [e3] at C3
                clear e3
                go_wp2_with fail
                refine C1.out.mono ?_; rintro e w1 ⟨rfl, rfl⟩
                go_wp2_with fail
                refine C2.out.mono ?_; rintro e w1 ⟨rfl, rfl⟩
                go_wp2_with fail
                refine C3.out.mono ?_; rintro e w1 ⟨rfl, rfl⟩
                go_wp2
                go_ret
                exact ⟨ret_congr (bool_congr Hr.out.symm), hb9⟩
              have E3 := Lib.hid (fits_iff.1 e3)
              rw [e3] at C3
              clear e3
              by_cases e4 : 1 ≤ x.a.casts.length
              rotate_left
              · have Hr := Lib.hid (Hno.out (fun ho => e4 ho.c1))
                have e4' : (x.a.casts.length : Int) < 1 := by omega
                go_wp2_with fail
                refine C1.out.mono ?_; rintro e w1 ⟨rfl, rfl⟩
                go_wp2_with fail
                refine C2.out.mono ?_; rintro e w1 ⟨rfl, rfl⟩
                go_wp2_with fail
                refine C3.out.mono ?_; rintro e w1 ⟨rfl, rfl⟩
                go_wp2
                go_ret
                exact ⟨ret_congr (bool_congr Hr.out.symm), hb9⟩
              have e4' : ¬ (x.a.casts.length : Int) < 1 := by omega
              by_cases e5 : x.a.casts.length ≤ 4
              rotate_left
              · have Hr := Lib.hid (Hno.out (fun ho => e5 ho.c4))
                have e5' : (x.a.casts.length : Int) > 4 := by omega
                go_wp2_with fail
                refine C1.out.mono ?_; rintro e w1 ⟨rfl, rfl⟩
                go_wp2_with fail
                refine C2.out.mono ?_; rintro e w1 ⟨rfl, rfl⟩
                go_wp2_with fail
                refine C3.out.mono ?_; rintro e w1 ⟨rfl, rfl⟩
                go_wp2
                go_ret
                exact ⟨ret_congr (bool_congr Hr.out.symm), hb9⟩
              have e5' : ¬ (x.a.casts.length : Int) > 4 := by omega
              go_wp2_with fail
              refine C1.out.mono ?_; rintro e w1 ⟨rfl, rfl⟩
              go_wp2_with fail
              refine C2.out.mono ?_; rintro e w1 ⟨rfl, rfl⟩
              go_wp2_with fail
              refine C3.out.mono ?_; rintro e w1 ⟨rfl, rfl⟩
              have Hcb := Lib.hid hcb
              clear C1 C2 C3 z0 z1 z2 x2 hcb hr6
              go_upto_block 6 with fail
              go_wp2
              generalize wr = w4 at *
              go_loopw [7] (fun t wq => ∃ k : Nat, t = .int .i64 k ∧ k ≤ x.a.casts.length ∧ Hid (∀ c ∈ x.a.casts.take k, c < 2 ^ s.rest.length) ∧ Below W1.heap.size W1 wq) (fun t _ => x.a.casts.length - (intOf t).toNat)
              case atStart => exact ⟨0, rfl, by omega, Lib.hid (by simp), Below.refl _ _⟩
              case round =>
                obtain ⟨k, rfl, hk, Hkk, hbs⟩ := hrel
                have hZs := hZ.ext hbs
                have hSs := hS1.ext hbs
                have hccs := hcc1.ext hbs
                by_cases hltk : k < x.a.casts.length
                · have hltk' : (k : Int) < (x.a.casts.length : Int) := by omega
                  have hk0 : (0 : Int) ≤ k := by omega
                  have z3s : wr.cell? ⟨Z, 3, none⟩ = _ := hZs.cell (i := 3) rfl
                  go_upto_region 22 with fail
                  refine Dr.wp_region_plan 10 [] (.q [0, 1, 2, 3, 4, 5, 6, 7] (.e1 8 (.q [9] .done))) (by kernel_rfl) (by kernel_rfl) ?_
                  have hbd := hbs.drew
                  have hZd := hZs.ext (ext_drew wr)
                  have hSd := hSs.ext (ext_drew wr)
                  have hccd := hccs.ext (ext_drew wr)
                  clear z3s hbs hZs hSs hccs
                  generalize World.drew _ = W at *
                  obtain ⟨b, off, hC, hbl, c0⟩ := hccd.at1 hltk rfl
                  have hZd2 := hZd
                  rw [hC] at hZd2
                  have q0 := Dr.cell0 (hZd2.cell (i := 3) rfl)
                  have q1 := Dr.cell0 c0
                  have q2 := Dr.cell0 (hSd.cell (i := 1) rfl)
                  have hci := Hcb.out _ (List.getElem_mem hltk)
                  have CB := Lib.hid (below_any x.a.casts[k] s.rest.length W hci (by omega))
                  have Hn := Lib.hid (fun (hf : fitsB x.a.casts[k] s.rest.length = true) => take_all hltk Hkk.out (fits_iff.1 hf))
                  have Hm := Lib.hid (List.getElem_mem hltk)
                  generalize x.a.casts[k] = cv at *
                  clear hC c0 hbl hZd2 hci
                  refine Dr.plan_q (l := [_, _, _, _, _, _, _, _]) rfl (fun K hK => ?_)
                  iterate 8 (go_big_quiet_step (fail))
                  refine wpQuiet_nil (hK _ ?_); clear hK K q0 q1 q2
                  refine Dr.plan_e rfl (by rfl) (fun K hK => ?_)
                  go_wp2_with fail
                  refine CB.out.mono ?_; rintro e w1 ⟨rfl, rfl⟩
                  refine hK _ _ (Dr.Bel.refl _ _) ?_; clear hK K CB
                  cases hf : fitsB cv s.rest.length
                  · have Hr := Lib.hid (Hno.out (fun ho => by rw [fits_iff.2 (ho.casts _ Hm.out)] at hf; cases hf))
                    clear hf
                    refine Dr.plan_q (l := [_]) rfl (fun K hK => ?_)
                    iterate 1 (go_big_quiet_step (fail))
                    refine wpQuiet_nil (hK _ ?_); clear hK K
                    refine Dr.plan_end rfl ?_
                    go_wp2
                    go_ret
                    exact ⟨ret_congr (bool_congr Hr.out.symm), hb9.trans (hbd.mono hb9.size)⟩
                  · have Hn2 := Lib.hid (Hn.out hf)
                    clear hf
                    refine Dr.plan_q (l := [_]) rfl (fun K hK => ?_)
                    iterate 1 (go_big_quiet_step (fail))
                    refine wpQuiet_nil (hK _ ?_); clear hK K
                    refine Dr.plan_end rfl ?_
                    go_wp2
                    go_roundw
                    case rel => exact ⟨k + 1, by go_num, by omega, Hn2, hbd⟩
                    case measure => simp [intOf]; omega
                · obtain rfl : k = x.a.casts.length := by omega
                  have hkk := Hkk.out
                  rw [List.take_length] at hkk
                  have Hdone := Lib.hid (Hak.out ⟨E1.out, E2.out, E3.out, e4, e5, hkk⟩)
                  clear hkk
                  have z3s : wr.cell? ⟨Z, 3, none⟩ = _ := hZs.cell (i := 3) rfl
                  go_wp2
                  go_roundw
                  case rel => exact ⟨i + 1, by go_num, by omega, Hdone, hb1.trans (hbs.mono hb1.size)⟩
                  case measure => simp [intOf]; omega
            · obtain rfl : i = s.acts.length := by omega
              have hk := Hk.out
              rw [List.take_length] at hk
              have Hacts := Lib.hid hk
              clear hk Hk
              have x0 : wr.cell? ⟨w.heap.size, 0, none⟩ = _ := hSr.cell (i := 0) rfl
              go_upto_block 8 with fail
              have hb9 := Hb0.out.trans (hbr.mono Hb0.out.size)
              have Hh2 := Lib.hid (Hh.out.ext hbr)
              clear Hh hbr hS x0 hlt hi
              generalize wr = V2 at *
              go_wp2
              go_loopw [8] (fun t wq => ∃ i : Nat, t = .int .i64 i ∧ i ≤ s.before.length ∧ Hid (∀ x ∈ s.before.take i, s.pairB x = true) ∧ Below V2.heap.size V2 wq) (fun t _ => s.before.length - (intOf t).toNat)
              case atStart => exact ⟨0, rfl, by omega, Lib.hid (by simp), Below.refl _ _⟩
              case round =>
                obtain ⟨i, rfl, hi, Hk, hbr⟩ := hrel
                have hSs := hSr.ext hbr
                have x6 : wr.cell? ⟨w.heap.size, 6, none⟩ = _ := hSs.cell (i := 6) rfl
                by_cases hlt : i < s.before.length
                · have hlt' : (i : Int) < (s.before.length : Int) := by omega
                  have hi0 : (0 : Int) ≤ i := by omega
                  obtain ⟨b, off, hB, hbl, c0, c1⟩ := (Hh2.out.ext hbr).before.at2 hlt rfl
                  rw [hB] at x6
                  have Hpk := Lib.hid (fun (hp : s.pairB s.before[i] = true) => take_all hlt Hk.out hp)
                  have Hno := Lib.hid (fun (hp : s.pairB s.before[i] = false) => show res = false by
                    cases hr : res
                    · rfl
                    · have := (Hf.out hr).before _ (List.getElem_mem hlt)
                      rw [hp] at this; cases this)
                  have hpe : s.pairB s.before[i] = (btw s.before[i].1 0 (s.acts.length - 1) && btw s.before[i].2 0 (s.acts.length - 1) && decide (s.before[i].1 ≠ s.before[i].2)) := rfl
                  have Hpe := Lib.hid hpe
                  clear hpe hB Hk
                  obtain ⟨p1, hp1⟩ : ∃ p1, p1 = s.before[i].1 := ⟨_, rfl⟩
                  obtain ⟨p2, hp2⟩ : ∃ p2, p2 = s.before[i].2 := ⟨_, rfl⟩
                  rw [← hp1, ← hp2] at Hpe
                  rw [← hp1] at c0
                  rw [← hp2] at c1
                  generalize s.pairB s.before[i] = pb at *
                  clear hp1 hp2
                  have hbz := ext_alloc wr (.cells #[.int .i64 p1, .int .i64 p2] 52)
                  have hZ : Blk (wr.alloc (.cells #[.int .i64 p1, .int .i64 p2] 52)) wr.heap.size 52 [.int .i64 p1, .int .i64 p2] := Blk.new wr 52 _
                  have hb1 := hbr.trans (hbz.mono hbr.size)
                  have hS1 := hSs.ext hbz
                  have hbt := hb9.trans (hb1.mono hb9.size)
                  go_upto_region 28 with fail
                  clear x6 c0 c1 hbz hbr hSs hbl
                  generalize wr.alloc (.cells #[.int .i64 p1, .int .i64 p2] 52) = W1 at *
                  generalize wr.heap.size = Z at *
                  have z0 : W1.cell? ⟨Z, 0, none⟩ = _ := hZ.cell (i := 0) rfl
                  have z1 : W1.cell? ⟨Z, 1, none⟩ = _ := hZ.cell (i := 1) rfl
                  have x0 : W1.cell? ⟨w.heap.size, 0, none⟩ = _ := hS1.cell (i := 0) rfl
                  have C1 := Lib.hid (In_any p1 0 (s.acts.length - 1) W1)
                  have C2 := Lib.hid (In_any p2 0 (s.acts.length - 1) W1)
                  cases e1 : btw p1 0 (s.acts.length - 1)
                  · have Hr := Lib.hid (Hno.out (by rw [Hpe.out, e1]; rfl))
                    rw [e1] at C1
                    clear e1
                    go_wp2_with fail
                    refine C1.out.mono ?_; rintro e w1 ⟨rfl, rfl⟩
                    go_wp2
                    go_ret
                    exact ⟨ret_congr (bool_congr Hr.out.symm), hbt⟩
                  rw [e1] at C1 Hpe
                  clear e1
                  cases e2 : btw p2 0 (s.acts.length - 1)
                  · have Hr := Lib.hid (Hno.out (by rw [Hpe.out, e2]; rfl))
                    rw [e2] at C2
                    clear e2
                    go_wp2_with fail
                    refine C1.out.mono ?_; rintro e w1 ⟨rfl, rfl⟩
                    go_wp2_with fail
                    refine C2.out.mono ?_; rintro e w1 ⟨rfl, rfl⟩
                    go_wp2
                    go_ret
                    exact ⟨ret_congr (bool_congr Hr.out.symm), hbt⟩
                  rw [e2] at C2 Hpe
                  clear e2
                  by_cases e3 : p1 = p2
                  · have Hr := Lib.hid (Hno.out (by rw [Hpe.out, e3]; simp))
                    have e3' : (p1 == p2) = true := by simp [e3]
                    have E3 := Lib.hid e3
                    clear e3
                    go_wp2_with fail
                    refine C1.out.mono ?_; rintro e w1 ⟨rfl, rfl⟩
                    go_wp2_with fail
                    refine C2.out.mono ?_; rintro e w1 ⟨rfl, rfl⟩
                    go_wp2
                    go_ret
                    exact ⟨ret_congr (bool_congr Hr.out.symm), hbt⟩
                  · have Hn := Lib.hid (Hpk.out (by rw [Hpe.out]; simp [e3]))
                    have e3' : (p1 == p2) = false := by simp [e3]
                    go_wp2_with fail
                    refine C1.out.mono ?_; rintro e w1 ⟨rfl, rfl⟩
                    go_wp2_with fail
                    refine C2.out.mono ?_; rintro e w1 ⟨rfl, rfl⟩
                    go_wp2
                    go_roundw
                    case rel => exact ⟨i + 1, by go_num, by omega, Hn, hb1⟩
                    case measure => simp [intOf]; omega
                · obtain rfl : i = s.before.length := by omega
                  have hk := Hk.out
                  rw [List.take_length] at hk
                  have Hbef := Lib.hid hk
                  have x0 : wr.cell? ⟨w.heap.size, 0, none⟩ = _ := hSs.cell (i := 0) rfl
                  have x4 : wr.cell? ⟨w.heap.size, 4, none⟩ = _ := hSs.cell (i := 4) rfl
                  have x5 : wr.cell? ⟨w.heap.size, 5, none⟩ = _ := hSs.cell (i := 5) rfl
                  have hbt := hb9.trans (hbr.mono hb9.size)
                  have C1 := Lib.hid (In_any s.cover 0 60 wr)
                  have C2 := Lib.hid (In_any s.dull 0 10 wr)
                  clear hk Hk hlt hi
                  go_upto_region 30 with fail
                  by_cases n1 : 1 ≤ s.acts.length
                  rotate_left
                  · have n1' : ¬ (s.acts.length : Int) ≥ 1 := by omega
                    have Hr := Lib.hid (show res = false by cases hr : res; rfl; exact absurd (Hf.out hr).n1 n1)
                    go_wp2
                    go_ret
                    exact ⟨ret_congr (bool_congr (by first | exact Hr.out.symm | (rw [Hr.out]; simp; done) | (rw [Hr.out]; simp; omega))), hbt⟩
                  have n1' : (s.acts.length : Int) ≥ 1 := by omega
                  by_cases n8 : s.acts.length ≤ 8
                  rotate_left
                  · have n8' : ¬ (s.acts.length : Int) ≤ 8 := by omega
                    have Hr := Lib.hid (show res = false by cases hr : res; rfl; exact absurd (Hf.out hr).n8 n8)
                    go_wp2
                    go_ret
                    exact ⟨ret_congr (bool_congr (by first | exact Hr.out.symm | (rw [Hr.out]; simp; done) | (rw [Hr.out]; simp; omega))), hbt⟩
                  have n8' : (s.acts.length : Int) ≤ 8 := by omega
                  cases e1 : btw s.cover 0 60
                  · have Hr := Lib.hid (show res = false by cases hr : res; rfl; exact absurd (Hf.out hr).cover (btw_no e1))
                    rw [e1] at C1
                    clear e1
                    go_wp2_with fail
                    refine C1.out.mono ?_; rintro e w1 ⟨rfl, rfl⟩
                    go_wp2
                    go_ret
                    exact ⟨ret_congr (bool_congr (by first | exact Hr.out.symm | (rw [Hr.out]; simp; done) | (rw [Hr.out]; simp; omega))), hbt⟩
                  have E1 := Lib.hid (btw_iff.1 e1)
                  rw [e1] at C1
                  clear e1
                  cases e2 : btw s.dull 0 10
                  · have Hr := Lib.hid (show res = false by cases hr : res; rfl; exact absurd (Hf.out hr).dull (btw_no e2))
                    rw [e2] at C2
                    clear e2
                    go_wp2_with fail
                    refine C1.out.mono ?_; rintro e w1 ⟨rfl, rfl⟩
                    go_wp2_with fail
                    refine C2.out.mono ?_; rintro e w1 ⟨rfl, rfl⟩
                    go_wp2
                    go_ret
                    exact ⟨ret_congr (bool_congr (by first | exact Hr.out.symm | (rw [Hr.out]; simp; done) | (rw [Hr.out]; simp; omega))), hbt⟩
                  have E2 := Lib.hid (btw_iff.1 e2)
                  rw [e2] at C2
                  clear e2
                  by_cases b20 : s.before.length ≤ 20
                  · have b20' : (s.before.length : Int) ≤ 20 := by omega
                    have Hr := Lib.hid (Ht.out ⟨n1, n8, q1, Hrest.out, q2, Hoi.out, Hins.out, Houts.out, E1.out, E2.out, b20, fun a ha => Sh.staged_iff.2 (Hacts.out a ha), Hbef.out⟩)
                    go_wp2_with fail
                    refine C1.out.mono ?_; rintro e w1 ⟨rfl, rfl⟩
                    go_wp2_with fail
                    refine C2.out.mono ?_; rintro e w1 ⟨rfl, rfl⟩
                    go_wp2
                    go_ret
                    exact ⟨ret_congr (bool_congr (by first | exact Hr.out.symm | (rw [Hr.out]; simp; done) | (rw [Hr.out]; simp; omega))), hbt⟩
                  · have b20' : ¬ (s.before.length : Int) ≤ 20 := by omega
                    have Hr := Lib.hid (show res = false by cases hr : res; rfl; exact absurd (Hf.out hr).b20 b20)
                    go_wp2_with fail
                    refine C1.out.mono ?_; rintro e w1 ⟨rfl, rfl⟩
                    go_wp2_with fail
                    refine C2.out.mono ?_; rintro e w1 ⟨rfl, rfl⟩
                    go_wp2
                    go_ret
                    exact ⟨ret_congr (bool_congr (by first | exact Hr.out.symm | (rw [Hr.out]; simp; done) | (rw [Hr.out]; simp; omega))), hbt⟩
end Go.Proofs.YtilkoooahoecfaaGreat

/- Walks: the reference's Order and Change. -/
namespace Go.Pg
open Go.Pl Go.Bs
theorem isum_cons (x : Int) (l : List Int) : isum (x :: l) = x + isum l := by
  have := isum_append [x] l
  simp [isum] at this ⊢
  try exact this
theorem isum_filter {α : Type} (p : α → Bool) (f : α → Int) : ∀ l : List α, isum ((l.filter p).map f) = isum (l.map fun i => if p i = true then f i else 0)
  | [] => rfl
  | x :: l => by
    rw [List.map_cons, isum_cons, List.filter_cons]
    cases hp : p x
    · rw [if_neg (by decide), if_neg (by decide), isum_filter p f l]; omega
    · rw [if_pos rfl, if_pos rfl, List.map_cons, isum_cons, isum_filter p f l]
theorem isum_add {α : Type} (f g : α → Int) : ∀ l : List α, isum (l.map f) + isum (l.map g) = isum (l.map fun i => f i + g i)
  | [] => rfl
  | x :: l => by
    rw [List.map_cons, List.map_cons, List.map_cons, isum_cons, isum_cons, isum_cons, ← isum_add f g l]; omega
theorem isum_range_ext (f : Nat → Int) {n : Nat} : ∀ m : Nat, (∀ i, n ≤ i → f i = 0) → isum ((List.range (n + m)).map f) = isum ((List.range n).map f)
  | 0, _ => rfl
  | m + 1, h => by
    rw [← Nat.add_assoc, List.range_succ, List.map_append, isum_append, isum_range_ext f m h]
    have : isum ([n + m].map f) = 0 := by
      rw [List.map_cons, List.map_nil, isum_cons, h _ (by omega)]; rfl
    omega
namespace Sh
/-- what number k brings to the minutes of a change -/
def chG (s : Sh) (a b k : Nat) : Int := (if ((s.act b).rigs.testBit k && !(s.act a).rigs.testBit k) = true then s.ins.getD k 0 else 0) + (if ((s.act a).rigs.testBit k && !(s.act b).rigs.testBit k) = true then s.outs.getD k 0 else 0)
def chTo (s : Sh) (a b k : Nat) : Int := isum ((List.range k).map (s.chG a b))
theorem chTo_succ (s : Sh) (a b k : Nat) : s.chTo a b (k + 1) = s.chTo a b k + s.chG a b k := by
  unfold chTo
  rw [List.range_succ, List.map_append, isum_append]
  have : isum ([k].map (s.chG a b)) = s.chG a b k := by rw [List.map_cons, List.map_nil, isum_cons]; show _ + 0 = _; omega
  omega
theorem chTo_end {s : Sh} (h : s.Ok) {a b : Nat} (ha : a < s.acts.length) (hb : b < s.acts.length) : s.chTo a b s.ins.length = s.chM a b := by
  have h1 := (h.act ha).rigs
  have h2 := (h.act hb).rigs
  have hz : ∀ (r : Nat), r < 2 ^ s.ins.length → ∀ i, s.ins.length ≤ i → r.testBit i = false := fun r hr i hi => Nat.testBit_lt_two_pow (Nat.lt_of_lt_of_le hr (Nat.pow_le_pow_right (by omega) hi))
  have h10 := h.i10
  have e : s.chM a b = s.chTo a b (s.ins.length + (16 - s.ins.length)) := by
    unfold chM less chTo
    rw [isum_filter, isum_filter, isum_add, show s.ins.length + (16 - s.ins.length) = 16 by omega]
    rfl
  rw [e]
  unfold chTo
  rw [isum_range_ext]
  intro i hi
  unfold chG
  rw [hz _ h1 i hi, hz _ h2 i hi]
  rfl
theorem chG_bd {s : Sh} (h : s.Ok) (a b k : Nat) : 0 ≤ s.chG a b k ∧ s.chG a b k ≤ 60 := by
  have h1 := getD_bd h.ins (by omega) k
  have h2 := getD_bd h.outs (by omega) k
  unfold chG
  split <;> split <;> omega
theorem chTo_bd {s : Sh} (h : s.Ok) (a b : Nat) : ∀ k : Nat, 0 ≤ s.chTo a b k ∧ s.chTo a b k ≤ 60 * k
  | 0 => by unfold chTo; simp [isum]
  | k + 1 => by
    have h1 := chTo_bd h a b k
    have h2 := chG_bd h a b k
    rw [chTo_succ]
    omega
end Sh
theorem nodup_snoc {l : List Int} {i : Nat} (hi : i < l.length) (h1 : (l.take i).Nodup) (h2 : ∀ x ∈ l.take i, x ≠ l[i]) : (l.take (i + 1)).Nodup := by
  rw [List.take_succ_eq_append_getElem hi, List.nodup_append]
  exact ⟨h1, by simp, fun a ha b hb => by simp at hb; rw [hb]; exact h2 a ha⟩
end Go.Pg
namespace Go.Proofs.YtilkoooahoecfaaGreat
open Go.RowKit Go.Bs Go.Pg Go.Pl Go.Sort
set_option maxRecDepth 100000 in
set_option maxHeartbeats 1000000 in
theorem Order_any (s : Sh) (p : ShP) (A : Option Addr) (n c : Nat) (l : List Int) (w : World) (h : ShM w s p) (hn : l.length = n) (hm : n ≤ 9223372036854775807) (hd : Cells w A 1 encI l) :
    Calls Tryz.prog 6 #[shV s p, .slice A n c] w fun e w' => e = .returned (.bool (ordB s.acts.length l)) ∧ Below w.heap.size w w' := by
  have m1 := h.small.1
  have hb0 := ext_alloc w (.cells (shC s p).toArray 26)
  have hS := Blk.new w 26 (shC s p)
  have hd0 := hd.ext hb0
  generalize hres : ordB s.acts.length l = res
  have Hf := Lib.hid (show res = true → _ from fun hr => ord_iff.1 (hres.trans hr))
  have Ht := Lib.hid (show _ → res = true from fun hr => hres.symm.trans (ord_iff.2 hr))
  have Hn := Lib.hid hn
  clear hres hn h hd
  unfold shV at *
  unfold shC at *
  go_enter Tryz.func6, Tryz.ntmps6
  go_upto_region 1 with fail
  change Blk (w.alloc (.cells #[.slice p.A s.acts.length p.cA, .slice p.R s.rest.length p.cR, .slice p.I s.ins.length p.cI, .slice p.O s.outs.length p.cO, .int .i64 s.cover, .int .i64 s.dull, .slice p.B s.before.length p.cB] 26)) _ _ _ at hS
  generalize w.alloc (.cells #[.slice p.A s.acts.length p.cA, .slice p.R s.rest.length p.cR, .slice p.I s.ins.length p.cI, .slice p.O s.outs.length p.cO, .int .i64 s.cover, .int .i64 s.dull, .slice p.B s.before.length p.cB] 26) = W0 at *
  go_wp2
  go_loopw [5] (fun t wr => ∃ i : Nat, t = .int .i64 i ∧ i ≤ n ∧ Hid (∀ x ∈ l.take i, 0 ≤ x ∧ x < s.acts.length) ∧ Hid ((l.take i).Nodup) ∧ Below W0.heap.size W0 wr) (fun t _ => n - (intOf t).toNat)
  case atStart => exact ⟨0, rfl, by omega, Lib.hid (by simp), Lib.hid (by simp), Below.refl _ _⟩
  case round =>
    obtain ⟨i, rfl, hi, Hk, Hd, hbr⟩ := hrel
    have hSr := hS.ext hbr
    by_cases hlt : i < n
    · have hlt' : (i : Int) < (n : Int) := by omega
      have hi0 : (0 : Int) ≤ i := by omega
      have hil : i < l.length := by rw [Hn.out]; exact hlt
      go_upto_region 4 with fail
      refine Dr.wp_region_plan 10 [] (.q [0, 1, 2, 3, 4, 5, 6, 7] (.e1 8 (.q [9] .done))) (by kernel_rfl) (by kernel_rfl) ?_
      have hbd := hbr.drew
      have hSd := hSr.ext (ext_drew wr)
      clear hbr hSr
      generalize World.drew _ = W at *
      obtain ⟨b, off, hA, hbl, c0⟩ := (hd0.ext hbd).at1 hil rfl
      have CI := Lib.hid (In_any l[i] 0 (s.acts.length - 1) W)
      have Hno := Lib.hid (show ¬ (0 ≤ l[i] ∧ l[i] < s.acts.length) → res = false from fun hx => by
        cases hr : res
        · rfl
        · exact absurd ((Hf.out hr).2.1 _ (List.getElem_mem hil)) hx)
      have Hyes := Lib.hid (fun (hx : 0 ≤ l[i] ∧ l[i] < s.acts.length) => take_all hil Hk.out hx)
      have Hnd := Lib.hid (fun (h2 : ∀ x ∈ l.take i, x ≠ l[i]) => nodup_snoc hil Hd.out h2)
      have Hdup := Lib.hid (fun k (hk : k < i) (hk2 : k < l.length) (he : l[k] = l[i]) => show res = false by
        cases hr : res
        · rfl
        · exact absurd he (List.pairwise_iff_getElem.1 (List.nodup_iff_pairwise_ne.1 (Hf.out hr).2.2) k i hk2 hil hk))
      have hd2 := hd0.ext hbd
      subst hA
      have q0 := Dr.cell0 c0
      have q1 := Dr.cell0 (hSd.cell (i := 0) rfl)
      generalize hli : l[i] = li at *
      have Hli := Lib.hid hli
      clear hli hbl hd2 Hk Hd
      refine Dr.plan_q (l := [_, _, _, _, _, _, _, _]) rfl (fun K hK => ?_)
      iterate 8 (go_big_quiet_step (fail))
      refine wpQuiet_nil (hK _ ?_); clear hK K q0 q1
      refine Dr.plan_e rfl (by rfl) (fun K hK => ?_)
      go_wp2_with fail
      refine CI.out.mono ?_; rintro e w1 ⟨rfl, rfl⟩
      refine hK _ _ (Dr.Bel.refl _ _) ?_; clear hK K CI
      refine Dr.plan_q (l := [_]) rfl (fun K hK => ?_)
      iterate 1 (go_big_quiet_step (fail))
      refine wpQuiet_nil (hK _ ?_); clear hK K
      refine Dr.plan_end rfl ?_
      cases hb : btw li 0 (s.acts.length - 1)
      · have Hr := Lib.hid (Hno.out (fun hx => btw_no hb (by omega)))
        clear hb
        go_wp2
        go_ret
        exact ⟨ret_congr (bool_congr Hr.out.symm), hb0.trans (hbd.mono hb0.size)⟩
      have HY := Lib.hid (Hyes.out (by have := btw_iff.1 hb; omega))
      clear hb
      go_upto_region 6 with fail
      go_wp2
      generalize wr = w4 at *
      go_loopw [6] (fun t wq => ∃ k : Nat, t = .int .i64 k ∧ k ≤ i ∧ Hid (∀ x ∈ l.take k, x ≠ li) ∧ Below W.heap.size W wq) (fun t _ => i - (intOf t).toNat)
      case atStart => exact ⟨0, rfl, by omega, Lib.hid (by simp), Below.refl _ _⟩
      case round =>
        obtain ⟨k, rfl, hk, Hkk, hbs⟩ := hrel
        by_cases hltk : k < i
        · have hltk' : (k : Int) < (i : Int) := by omega
          have hkn' : (k : Int) < (n : Int) := by omega
          have hk0 : (0 : Int) ≤ k := by omega
          have hkl : k < l.length := by omega
          go_upto_region 9 with fail
          refine Dr.wp_region_plan 9 [] (.q [0, 1, 2, 3, 4, 5, 6, 7, 8] .done) (by kernel_rfl) (by kernel_rfl) ?_
          have hbe := hbs.drew
          have c0' : wr.drew.cell? ⟨b, off + i, none⟩ = some _ := (cell_ext c0 hbe)
          obtain ⟨b', off', hA', -, d0⟩ := ((hd0.ext hbd).ext hbe).at1 hkl rfl
          cases hA'
          have q0 := Dr.cell0 c0'
          have q1 := Dr.cell0 d0
          have HD := Lib.hid (fun he => Hdup.out k hltk hkl he)
          have HT := Lib.hid (fun (hne : l[k] ≠ li) => take_all hkl Hkk.out hne)
          generalize l[k] = lk at *
          clear c0' d0 hbs
          generalize World.drew _ = W9 at *
          refine Dr.plan_q (l := [_, _, _, _, _, _, _, _, _]) rfl (fun K hK => ?_)
          iterate 9 (go_big_quiet_step (fail))
          refine wpQuiet_nil (hK _ ?_); clear hK K q0 q1
          refine Dr.plan_end rfl ?_
          by_cases he : lk = li
          · have Hr := Lib.hid (HD.out he)
            have he' : (lk == li) = true := by simp [he]
            have He := Lib.hid he
            clear he
            go_wp2
            go_ret
            exact ⟨ret_congr (bool_congr Hr.out.symm), hb0.trans ((hbd.trans (hbe.mono hbd.size)).mono hb0.size)⟩
          · have HT2 := Lib.hid (HT.out he)
            have he' : (lk == li) = false := by simp [he]
            go_wp2
            go_roundw
            case rel => exact ⟨k + 1, by go_num, by omega, HT2, hbe⟩
            case measure => simp [intOf]; omega
        · obtain rfl : k = i := by omega
          have HN := Lib.hid (Hnd.out Hkk.out)
          go_wp2
          go_roundw
          case rel => exact ⟨k + 1, by go_num, by omega, HY, HN, hbd.trans (hbs.mono hbd.size)⟩
          case measure => simp [intOf]; omega
    · obtain rfl : i = n := by omega
      have x0 : wr.cell? ⟨w.heap.size, 0, none⟩ = _ := hSr.cell (i := 0) rfl
      have hkk := Hk.out
      have hdd := Hd.out
      rw [List.take_of_length_le (by rw [Hn.out]; omega)] at hkk hdd
      by_cases he : i = s.acts.length
      · have Hr := Lib.hid (Ht.out ⟨Hn.out.trans he, hkk, hdd⟩)
        have he' : ((i : Int) == (s.acts.length : Int)) = true := by simp; omega
        clear hkk hdd
        have He := Lib.hid he
        clear he
        go_wp2
        go_ret
        exact ⟨ret_congr (bool_congr Hr.out.symm), hb0.trans (hbr.mono hb0.size)⟩
      · have Hr := Lib.hid (show res = false by cases hr : res; rfl; exact absurd (Hn.out.symm.trans (Hf.out hr).1) he)
        have he' : ((i : Int) == (s.acts.length : Int)) = false := by simp; omega
        clear hkk hdd
        go_wp2
        go_ret
        exact ⟨ret_congr (bool_congr Hr.out.symm), hb0.trans (hbr.mono hb0.size)⟩
end Go.Proofs.YtilkoooahoecfaaGreat

/- Walk: the reference's Change. -/
namespace Go.Proofs.YtilkoooahoecfaaGreat
open Go.RowKit Go.Bs Go.Pg Go.Pl Go.Sort
end Go.Proofs.YtilkoooahoecfaaGreat

/- Walk: the least cost of what is still to come (a closure that calls itself, with a map of what it knows). -/
import Derived.Test.YtcnidhcdkbfpcaaPrgV
namespace Go.Pg
open Go.Pl
def startV (s : Sh) (x : St) : Int := if x.set = s.whole then 0 else maxT
def bestTo (s : Sh) (x : St) (i : Nat) : Int := minL (startV s x) (((s.fol x).take i).map fun y => y.cost + s.best y.st)
theorem bestTo_zero (s : Sh) (x : St) : bestTo s x 0 = startV s x := rfl
theorem bestTo_succ {s : Sh} {x : St} {i : Nat} (h : i < (s.fol x).length) : bestTo s x (i + 1) = min (bestTo s x i) ((s.fol x)[i].cost + s.best (s.fol x)[i].st) := by
  unfold bestTo
  rw [List.take_succ_eq_append_getElem h, List.map_append, minL_append]
  rfl
theorem bestTo_end (s : Sh) (x : St) : bestTo s x (s.fol x).length = s.best x := by
  unfold bestTo
  rw [List.take_length, Sh.best_min]
  rfl
theorem startV_bd (s : Sh) (x : St) : 0 ≤ startV s x ∧ startV s x ≤ 1000000 := by unfold startV maxT; split <;> omega
theorem bestTo_bd {s : Sh} (hok : s.Ok) (x : St) (i : Nat) : 0 ≤ bestTo s x i ∧ bestTo s x i ≤ 1000000 := by
  have h1 := startV_bd s x
  constructor
  · unfold bestTo
    rcases minL_hit (startV s x) (((s.fol x).take i).map fun y => y.cost + s.best y.st) with h | h
    · rw [h]; exact h1.1
    · obtain ⟨y, hy, e⟩ := List.mem_map.1 h
      obtain ⟨c, -, -, rfl⟩ := Sh.fol_mem (List.mem_of_mem_take hy)
      have h2 := hok.chC x.last c
      have h3 := Sh.best_bd hok (s.nx x c).st
      have h4 : (s.nx x c).cost = s.chC x.last c := rfl
      omega
  · exact Int.le_trans (minL_le _ _) h1.2
theorem fol_len (s : Sh) (x : St) : (s.fol x).length ≤ s.acts.length := folTo_len s x s.acts.length
end Go.Pg
namespace Go.Proofs.Ytcnidhcdkbfpcaa
open Go.RowKit Go.Bs Go.Pg Go.Pl Go.Sort
def OfC (w0 : World) (s : Sh) (p : ShP) (F S G O B : Nat) (x : St) (U : Nat) : Prop :=
  ∀ (n : Nat) (W : World), OfM w0 s p F S G O B W → MapG s W B n → n + U ≤ 1000000000000000000 →
    Calls Try.prog 96 #[St.val x, .pointer (some ⟨F, 0, none⟩), .pointer (some ⟨S, 0, none⟩), .pointer (some ⟨G, 0, none⟩), .pointer (some ⟨O, 0, none⟩)] W fun e W' => e = .returned (.int .i64 (s.best x)) ∧ Dr.Bel [B] W W' ∧ MapG s W' B (n + U)
set_option maxRecDepth 100000 in
set_option maxHeartbeats 4000000 in
theorem of_step (s : Sh) (p : ShP) (w0 : World) (F S G O B : Nat) (h0 : ShM w0 s p) (hok : s.Ok) (x : St) (hx : StOk s x) (U : Nat) (ih : ∀ y ∈ s.fol x, OfC w0 s p F S G O B y.st U) :
    OfC w0 s p F S G O B x ((s.fol x).length * U + 1) := by
  intro n W hof hmap hn
  have hn8 := hok.n8
  have hs := hx.lt hok
  obtain ⟨kl, hkey⟩ := key_some x hs (by have := hx.last; omega) (by have := hx.sec; omega)
  have CF := Lib.hid (fun V (hV : Below w0.heap.size w0 V) => follows_any s p x V (h0.ext hV) hok hx)
  have CW := Lib.hid (fun V => whole_any s p V hn8)
  have hbb : 0 ≤ s.best x ∧ s.best x ≤ 1000000 := Sh.best_bd hok x
  have Hbt := Lib.hid (fun i => bestTo_bd hok x i)
  have Hst := Lib.hid (show startV s x = if x.set = s.whole then 0 else 1000000 from rfl)
  have Hih := Lib.hid ih
  have Hchc := Lib.hid (fun y (hy : y ∈ s.fol x) => show 0 ≤ y.cost ∧ y.cost ≤ 1960 from by
    obtain ⟨c, -, -, rfl⟩ := Sh.fol_mem hy
    exact hok.chC x.last c)
  have Hbb := Lib.hid (fun y => show 0 ≤ s.best y ∧ s.best y ≤ 1000000 from Sh.best_bd hok y)
  clear ih hok h0 hx
  have hb0 := ext_alloc W (.cells (stC x).toArray 90)
  have hX := Blk.new W 90 (stC x)
  have hof0 := hof.ext hb0
  have hmap0 := hmap.ext hb0
  obtain ⟨D, hown, hgood⟩ := hmap0
  have hgx := hgood x kl hkey
  have Hgood := Lib.hid hgood
  have Hkey := Lib.hid hkey
  clear hof hmap hgood
  unfold St.val at hkey ⊢
  unfold stC at *
  generalize hbx : s.best x = bx at *
  go_enter Try.func96, Try.ntmps96
  go_upto_region 1 with fail
  change Blk (W.alloc (.cells #[.int .u16 x.set, .int .i64 x.last, .int .i64 x.sec] 90)) _ _ _ at hX
  generalize W.alloc (.cells #[.int .u16 x.set, .int .i64 x.last, .int .i64 x.sec] 90) = W0 at *
  have f0 : W0.cell? ⟨F, 0, none⟩ = _ := hof0.f.cell (i := 0) rfl
  have x0 : W0.cell? ⟨W.heap.size, 0, none⟩ = _ := hX.cell (i := 0) rfl
  have x1 : W0.cell? ⟨W.heap.size, 1, none⟩ = _ := hX.cell (i := 1) rfl
  have x2 : W0.cell? ⟨W.heap.size, 2, none⟩ = _ := hX.cell (i := 2) rfl
  go_upto_region 2 with (at_lookup; refine wpList_lookup_own_ok_int _ rfl _ _ 109 rfl 90 3 .i64 law90 Try.underlying109 Try.underlying3 (zero3 _) B n D rfl hown _ kl rfl hkey ?_; intro c hat hwc)
  cases hh : Maps.has D kl
  · clear hgx hat hwc f0
    go_upto_region 5 with fail
    refine Dr.wp_region_plan 5 [] (.q [0, 1, 2] (.e1 3 (.q [4] .done))) (by kernel_rfl) (by kernel_rfl) ?_
    have hof1 := hof0.ext (ext_drew W0)
    have hX1 := hX.ext (ext_drew W0)
    have hown1 := hown.drew
    have hb1 := hb0.drew
    clear hof0 hX hown hb0 x0 x1 x2
    generalize World.drew _ = W1 at *
    have q0 := Dr.cell0 (hof1.sb.cell (i := 0) rfl)
    have q1 := Dr.cell0 (hof1.sb.cell (i := 1) rfl)
    have q2 := Dr.cell0 (hof1.sb.cell (i := 2) rfl)
    have q3 := Dr.cell0 (hof1.sb.cell (i := 3) rfl)
    have q4 := Dr.cell0 (hof1.sb.cell (i := 4) rfl)
    have q5 := Dr.cell0 (hof1.sb.cell (i := 5) rfl)
    have q6 := Dr.cell0 (hof1.sb.cell (i := 6) rfl)
    have r0 := Dr.cell0 (hX1.cell (i := 0) rfl)
    refine Dr.plan_q (l := [_, _, _]) rfl (fun K hK => ?_)
    iterate 3 (go_big_quiet_step (fail))
    refine wpQuiet_nil (hK _ ?_); clear hK K
    clear q0 q1 q2 q3 q4 q5 q6 r0
    have CC := Lib.hid (CW.out W1)
    unfold shV at CC
    refine Dr.plan_e rfl (by rfl) (fun K hK => ?_)
    go_wp2_with fail
    refine CC.out.mono ?_; rintro e W2 ⟨rfl, hx2⟩
    refine hK _ _ (.of hx2) ?_; clear hK K CC
    have hof2 := hof1.ext hx2
    have hX2 := hX1.ext hx2
    have hown2 := hown1.kept (grown_of_ext hx2 none) (by simp)
    have hb2 := hb1.trans (hx2.mono hb1.size)
    clear hof1 hX1 hown1 hb1 hx2
    refine Dr.plan_q (l := [_]) rfl (fun K hK => ?_)
    iterate 1 (go_big_quiet_step (fail))
    refine wpQuiet_nil (hK _ ?_); clear hK K
    refine Dr.plan_end rfl ?_
    go_upto_if 24 with fail
    go_cut [9] (fun v V => v = .int .i64 (startV s x) ∧ V = W2)
    case first =>
      by_cases he : x.set = s.whole
      · have he' : ((x.set : Int) == s.whole) = true := by simp; omega
        have hv : startV s x = 0 := by rw [Hst.out, if_pos he]
        have Hv := Lib.hid hv
        clear hv
        go_wp2
        go_meet
        case rel => exact ⟨by rw [Hv.out], rfl⟩
      · have he' : ((x.set : Int) == s.whole) = false := by simp; omega
        have hv : startV s x = 1000000 := by rw [Hst.out, if_neg he]
        have Hv := Lib.hid hv
        clear hv
        go_wp2
        go_meet
        case rel => exact ⟨by rw [Hv.out], rfl⟩
    case rest =>
      obtain ⟨rfl, rfl⟩ := hcut
      have g0 : wc.cell? ⟨G, 0, none⟩ = _ := hof2.g.cell (i := 0) rfl
      have x0 : wc.cell? ⟨W.heap.size, 0, none⟩ = _ := hX2.cell (i := 0) rfl
      have x1 : wc.cell? ⟨W.heap.size, 1, none⟩ = _ := hX2.cell (i := 1) rfl
      have x2 : wc.cell? ⟨W.heap.size, 2, none⟩ = _ := hX2.cell (i := 2) rfl
      have CC := Lib.hid (CF.out wc hof2.bl)
      unfold shV St.val at CC
      unfold shV at g0
      go_wp2_with fail
      refine CC.out.mono ?_; rintro e W3 ⟨⟨v, rfl, hv⟩, hx3⟩
      obtain ⟨A, cA, rfl, -, -, hcel⟩ := hv.cells nx_len
      have hge := hv.block_ge rfl
      have hof3 := hof2.ext hx3
      have hX3 := hX2.ext hx3
      have hown3 := hown2.kept (grown_of_ext hx3 none) (by simp)
      have hb3 := hb2.trans (hx3.mono hb2.size)
      have hBlt := hown2.lt
      have hXlt := hX2.lt
      have hXB : B ≠ W.heap.size := by
        intro e
        obtain ⟨es, ck, h1, -⟩ := hown2
        rw [e] at h1
        unfold Blk at hX2
        rw [h1] at hX2
        cases hX2
      have hAB : ∀ k, A.map (·.block) = some k → k ≠ B := fun k hk e => by have := (hge k hk).1; omega
      have hfl := fol_len s x
      clear CC g0 x0 x1 x2 hof2 hX2 hown2 hb2 hx3 hv hge CF CW Hst
      generalize hLL : s.fol x = L at *
      have hL8 : L.length ≤ 8 := by omega
      have Hlen := Lib.hid (show ∀ i (h : i < L.length), bestTo s x (i + 1) = min (bestTo s x i) (L[i].cost + s.best L[i].st) from fun i h => by subst hLL; exact bestTo_succ h)
      have Hend := Lib.hid (show bestTo s x L.length = bx from by subst hLL; rw [bestTo_end, hbx])
      have hof3' : Below W.heap.size W W3 ∧ W.heap.size < W3.heap.size ∧ B < W3.heap.size := ⟨hb3, hX3.lt, by have := hown3.lt; omega⟩
      have hUn := hn
      have Hbst := Lib.hid (show bestTo s x 0 = startV s x from rfl)
      have HX3 := Lib.hid (show MapG s W3 B n from ⟨D, hown3, Hgood.out⟩)
      have hb30 : Dr.Bel [B] W3 W3 := Dr.Bel.refl _ _
      have HLL := Lib.hid hLL
      clear hfl hown3 Hgood hLL
      rw [← Hbst.out]
      have Hn := Lib.hid hUn
      clear hn hUn hBlt hXlt
      generalize bestTo s x = bt at *
      go_wp2
      go_loopw [9, 29] (fun a t wr => ∃ i : Nat, a = .int .i64 (bt i) ∧ t = .int .i64 i ∧ i ≤ L.length ∧ Dr.Bel [B] W3 wr ∧ MapG s wr B (n + i * U)) (fun _ t _ => L.length - (intOf t).toNat)
      case atStart => exact ⟨0, rfl, rfl, by omega, hb30, by rw [Nat.zero_mul]; exact HX3.out⟩
      case round =>
        obtain ⟨i, rfl, rfl, hi, hbr, hmr⟩ := hrel
        have hofr := hof3.bel hbr
        have hXr := hbr.blk hX3 (by simp; omega)
        have hcr := Dr.cells_bel hcel hbr (fun k hk => by simpa using hAB k hk)
        by_cases hlt : i < L.length
        · obtain ⟨b, o, rfl, hbl, c0, c1, c2, c3, c4⟩ := hcr.at5 hlt rfl
          have hy := List.getElem_mem hlt
          have hcy := Hchc.out _ hy
          have hby := Hbb.out L[i].st
          have hbi := Hbt.out i
          have Hnx := Lib.hid (Hlen.out i hlt)
          have HI := Lib.hid (Hih.out _ hy)
          generalize L[i] = y at *
          have hlt' : (i : Int) < (L.length : Int) := by omega
          have hi0 : (0 : Int) ≤ i := by omega
          have hmul : (i + 1) * U ≤ L.length * U := Nat.mul_le_mul_right _ hlt
          have hmul2 : (i + 1) * U = i * U + U := by rw [Nat.add_mul, Nat.one_mul]
          clear hy hcr
          go_upto_region 10 with fail
          have hnew := Blk.new wr 117 (Nx.enc y)
          have hx4 := ext_alloc wr (.cells (Nx.enc y).toArray 117)
          have hof4 := hofr.ext hx4
          have hm4 := hmr.ext hx4
          have hb4 := hbr.trans (Dr.Bel.of hx4)
          have hNB : B ≠ wr.heap.size := by have := hmr.lt; omega
          clear hofr hmr hbr hXr hx4 c0 c1 c2 c3 c4
          change Blk (wr.alloc (.cells #[.int .i64 y.act, .int .i64 y.cost, .int .u16 y.st.set, .int .i64 y.st.last, .int .i64 y.st.sec] 117)) _ _ _ at hnew
          change OfM w0 s p F S G O B (wr.alloc (.cells #[.int .i64 y.act, .int .i64 y.cost, .int .u16 y.st.set, .int .i64 y.st.last, .int .i64 y.st.sec] 117)) at hof4
          change MapG s (wr.alloc (.cells #[.int .i64 y.act, .int .i64 y.cost, .int .u16 y.st.set, .int .i64 y.st.last, .int .i64 y.st.sec] 117)) _ _ at hm4
          change Dr.Bel [B] W3 (wr.alloc (.cells #[.int .i64 y.act, .int .i64 y.cost, .int .u16 y.st.set, .int .i64 y.st.last, .int .i64 y.st.sec] 117)) at hb4
          generalize wr.alloc (.cells #[.int .i64 y.act, .int .i64 y.cost, .int .u16 y.st.set, .int .i64 y.st.last, .int .i64 y.st.sec] 117) = V0 at *
          generalize wr.heap.size = N at *
          refine Dr.wp_region_plan 10 [B] (.q [0, 1, 2, 3, 4, 5] (.e1 6 (.q [7, 8, 9] .done))) (by kernel_rfl) (by kernel_rfl) ?_
          have hof5 := hof4.ext (ext_drew V0)
          have hm5 := hm4.ext (ext_drew V0)
          have hb5 := hb4.trans (Dr.Bel.of (ext_drew V0))
          have hnew5 := hnew.ext (ext_drew V0)
          clear hof4 hm4 hb4 hnew
          generalize World.drew _ = V at *
          obtain ⟨n1, n2, n3, n4⟩ := hof5.ne
          have q0 := Dr.cls_cell (M := [B]) (hof5.o.cell (i := 0) rfl) (by simp; omega)
          have q1 := Dr.cls_cell (M := [B]) (hnew5.cell (i := 1) rfl) (by simp; omega)
          have q2 := Dr.cls_cell (M := [B]) (hnew5.cell (i := 2) rfl) (by simp; omega)
          have q3 := Dr.cls_cell (M := [B]) (hnew5.cell (i := 3) rfl) (by simp; omega)
          have q4 := Dr.cls_cell (M := [B]) (hnew5.cell (i := 4) rfl) (by simp; omega)
          refine Dr.plan_q (l := [_, _, _, _, _, _]) rfl (fun K hK => ?_)
          iterate 6 (go_big_quiet_step (fail))
          refine wpQuiet_nil (hK _ ?_); clear hK K
          clear q0 q1 q2 q3 q4 hnew5
          have CI := Lib.hid (HI.out (n + i * U) V hof5 hm5 (by have := Hn.out; omega))
          unfold St.val at CI
          clear hof5 hm5
          refine Dr.plan_e rfl (by rfl) (fun K hK => ?_)
          go_wp2_with fail
          refine CI.out.mono ?_; rintro e V2 ⟨rfl, hb6, hm6⟩
          refine hK _ _ hb6 ?_; clear hK K CI
          have hb7 := hb5.trans hb6
          rw [show n + i * U + U = n + (i + 1) * U by omega] at hm6
          have Hm6 := Lib.hid hm6
          clear hb5 hb6 hm6 n1 n2 n3 n4
          generalize s.best y.st = by_ at *
          refine Dr.plan_q (l := [_, _, _]) rfl (fun K hK => ?_)
          iterate 3 (go_big_quiet_step (fail))
          refine wpQuiet_nil (hK _ ?_); clear hK K
          refine Dr.plan_end rfl ?_
          go_wp2
          go_roundw
          case rel => exact ⟨i + 1, by rw [Hnx.out], by go_num, by omega, hb7, Hm6.out⟩
          case measure => simp [intOf]; omega
        · obtain rfl : i = L.length := by omega
          obtain ⟨D2, hown4, hgood4⟩ := hmr
          have hgp := good_put hown4.isMap Hkey.out hgood4
          rw [hbx, ← Hend.out] at hgp
          have Hgp := Lib.hid hgp
          have hwf : (Lit.int .i64 (bt L.length)).wf = true := WalkArith.wf_i64 (by have := Hbt.out L.length; omega)
          have f0 : wr.cell? ⟨F, 0, none⟩ = _ := hofr.f.cell (i := 0) rfl
          have x0 : wr.cell? ⟨W.heap.size, 0, none⟩ = _ := hXr.cell (i := 0) rfl
          have x1 : wr.cell? ⟨W.heap.size, 1, none⟩ = _ := hXr.cell (i := 1) rfl
          have x2 : wr.cell? ⟨W.heap.size, 2, none⟩ = _ := hXr.cell (i := 2) rfl
          clear hgp hgood4
          go_wp2_with (at_mapUpdate; refine wpList_mapUpdate_own _ rfl _ _ _ 109 rfl 90 3 law90 Try.underlying109 _ B (n + L.length * U) D2 rfl hown4 (by have := Hn.out; unfold maxLen; omega) _ _ kl rfl rfl hkey _ [] (plainElem_int Try.underlying3 hwf) ?_; intro w1 hown5 hgrow5)
          go_ret
          have hb9 : Dr.Bel [B] wr w1 := ⟨hgrow5.os, hgrow5.tape, hgrow5.output, hgrow5.size, fun k hk hm => hgrow5.block k hk (fun e => hm (by cases e; simp))⟩
          exact ⟨ret_congr (int_congr Hend.out), ((Dr.Bel.of hb3).trans hbr).trans hb9, by rw [HLL.out]; exact ⟨_, hown5, Hgp.out⟩⟩
  · have hcb : c = bx := by
      have := hgx hh (.lit (.int .i64 0))
      rw [hat] at this
      simpa using this
    subst hcb
    go_wp2
    go_ret
    exact ⟨rfl, .of hb0, D, hown.mono (by omega), Hgood.out⟩
theorem of_any (s : Sh) (p : ShP) (w0 : World) (F S G O B : Nat) (h0 : ShM w0 s p) (hok : s.Ok) : ∀ (k : Nat) (x : St), StOk s x → s.left x = k → OfC w0 s p F S G O B x (updN k) := by
  intro k
  induction k using Nat.strongRecOn with
  | _ k ih =>
    intro x hx hk n W hof hmap hn
    have hlen : (s.fol x).length ≤ 8 := Nat.le_trans (fol_len s x) hok.n8
    cases k with
    | zero =>
      have h00 : s.fol x = [] := by
        cases hf : s.fol x with
        | nil => rfl
        | cons y r =>
          have := Sh.fol_left (s := s) (x := x) (y := y) (by rw [hf]; simp)
          omega
      have h := of_step s p w0 F S G O B h0 hok x hx 0 (fun y hy => by rw [h00] at hy; simp at hy) n W hof hmap (by have : updN 0 = 1 := rfl; omega)
      refine h.mono ?_
      rintro e W' ⟨h1, h2, h3⟩
      exact ⟨h1, h2, h3.mono (by have : updN 0 = 1 := rfl; omega)⟩
    | succ j =>
      have hm : (s.fol x).length * updN j ≤ 8 * updN j := Nat.mul_le_mul_right _ hlen
      have hu : updN (j + 1) = 1 + 8 * updN j := rfl
      have h := of_step s p w0 F S G O B h0 hok x hx (updN j) (fun y hy => ih j (by omega) y.st (hx.fol hy) (by have := Sh.fol_left hy; omega)) n W hof hmap (by omega)
      refine h.mono ?_
      rintro e W' ⟨h1, h2, h3⟩
      exact ⟨h1, h2, h3.mono (by omega)⟩
end Go.Proofs.Ytcnidhcdkbfpcaa

/- Walk: the law PurseActs. -/
import Derived.Test.YtnjdlhhgnamigaaGreatAwC
import Derived.Test.YtnjdlhhgnamigaaGreatLgnG
import Derived.Test.YtnjdlhhgnamigaaGreatCoiA
import Derived.Test.YtnjdlhhgnamigaaGreatRefX
namespace Go.Proofs.YtnjdlhhgnamigaaGreat
open Go.RowKit Go.Bs Go.Pu Go.Pl Go.Sort
theorem lz_m (w : World) : LedM w Led.zero none 0 none 0 none 0 := ⟨rfl, rfl, rfl, by omega, by omega, by omega, fun i x h => by simp [Led.zero] at h, fun i x h => by simp [Led.zero] at h, fun i x h => by simp [Led.zero] at h⟩
set_option maxRecDepth 100000 in
set_option maxHeartbeats 8000000 in
theorem acts_law (l : Led) (A : Option Addr) (n c : Nat) (B : Option Addr) (m d : Nat) (D : Option Addr) (q e : Nat) (a : Pu.Act) (w : World)
    (hn : l.windows.length = n) (hm : l.bags.length = m) (hq : l.diffs.length = q) (h1 : n ≤ 9223372036854775807) (h2 : m ≤ 9223372036854775807) (h3 : q ≤ 9223372036854775807) (hA : Cells w A 1 encI l.windows) (hB : Cells w B 6 Bag.enc l.bags) (hD : Cells w D 3 Dif.enc l.diffs) :
    Calls Tryz.prog 4 #[ledV A n c B m d l.office l.bank l.begun l.inn l.out D q e, Act.val a] w fun r w' => r = .returned (.bool true) ∧ Below w.heap.size w w' := by
  obtain ⟨a0, a1, a2, a3, a4, a5⟩ := a
  have hbw0 : Below w.heap.size w ((w.alloc (.cells #[.slice A n c, .slice B m d, .int .i64 l.office, .int .i64 l.bank, .int .i64 l.begun, .int .i64 l.inn, .int .i64 l.out, .slice D q e] 26)).alloc (.cells #[.int .u8 a0, .int .i64 a1, .int .i64 a2, .int .i64 a3, .int .i64 a4, .int .i64 a5] 48)) := ((Below.refl _ _).alloc (Nat.le_refl _) _).alloc (by simp) _
  have hX0 := (Blk.new w 26 [.slice A n c, .slice B m d, .int .i64 l.office, .int .i64 l.bank, .int .i64 l.begun, .int .i64 l.inn, .int .i64 l.out, .slice D q e]).alloc (.cells #[.int .u8 a0, .int .i64 a1, .int .i64 a2, .int .i64 a3, .int .i64 a4, .int .i64 a5] 48)
  have hU0 := Blk.new (w.alloc (.cells #[.slice A n c, .slice B m d, .int .i64 l.office, .int .i64 l.bank, .int .i64 l.begun, .int .i64 l.inn, .int .i64 l.out, .slice D q e] 26)) 48 [.int .u8 a0, .int .i64 a1, .int .i64 a2, .int .i64 a3, .int .i64 a4, .int .i64 a5]
  simp only [World.size_alloc] at hU0
  have CS := Lib.hid (fun W => small_any l A n c B m d D q e W)
  have HM := Lib.hid (fun W (hb : Below w.heap.size w W) (a1 : n ≤ 1000) (a2 : m ≤ 1000) (a3 : q ≤ 1000) => (⟨hn, hm, hq, a1, a2, a3, hA.ext hb, hB.ext hb, hD.ext hb⟩ : LedM W l A n B m D q))
  have CL := Lib.hid (fun W h => Ledger_any l A n c B m d D q e W h)
  have CR := Lib.hid (fun W h => RightL_any l A n c B m d D q e W h)
  have CA := Lib.hid (fun W => (show Calls Tryz.prog 16 #[.agg #[.int .u8 a0, .int .i64 a1, .int .i64 a2, .int .i64 a3, .int .i64 a4, .int .i64 a5]] W fun r w' => r = .returned (.agg #[.int .u8 a0, .int .i64 a1, .int .i64 a2, .int .i64 a3, .int .i64 a4, .int .i64 a5]) ∧ Below W.heap.size W w' from Act_any ⟨a0, a1, a2, a3, a4, a5⟩ W))
  have CD := Lib.hid (fun A c B d D e W h => Do_any l ⟨a0, a1, a2, a3, a4, a5⟩ A n c B m d D q e W h)
  have CDR := Lib.hid (fun W h h2 h3 => DoR_any l ⟨a0, a1, a2, a3, a4, a5⟩ A n c B m d D q e W h h2 h3)
  have Hdf := Lib.hid (show doF l ⟨a0, a1, a2, a3, a4, a5⟩ = if l.okB then doL l ⟨a0, a1, a2, a3, a4, a5⟩ else (Led.zero, 1) from rfl)
  generalize doF l ⟨a0, a1, a2, a3, a4, a5⟩ = fx at *
  obtain ⟨nx, code⟩ := fx
  generalize doL l ⟨a0, a1, a2, a3, a4, a5⟩ = gx at *
  clear hA hB hD hn hm hq
  unfold ledV Act.val at *
  go_enter Tryz.func4, Tryz.ntmps4
  go_upto_region 1 with fail
  change Blk ((w.alloc (.cells #[.slice A n c, .slice B m d, .int .i64 l.office, .int .i64 l.bank, .int .i64 l.begun, .int .i64 l.inn, .int .i64 l.out, .slice D q e] 26)).alloc (.cells #[.int .u8 a0, .int .i64 a1, .int .i64 a2, .int .i64 a3, .int .i64 a4, .int .i64 a5] 48)) _ _ _ at hX0
  change Blk ((w.alloc (.cells #[.slice A n c, .slice B m d, .int .i64 l.office, .int .i64 l.bank, .int .i64 l.begun, .int .i64 l.inn, .int .i64 l.out, .slice D q e] 26)).alloc (.cells #[.int .u8 a0, .int .i64 a1, .int .i64 a2, .int .i64 a3, .int .i64 a4, .int .i64 a5] 48)) _ _ _ at hU0
  change Below _ _ ((w.alloc (.cells #[.slice A n c, .slice B m d, .int .i64 l.office, .int .i64 l.bank, .int .i64 l.begun, .int .i64 l.inn, .int .i64 l.out, .slice D q e] 26)).alloc (.cells #[.int .u8 a0, .int .i64 a1, .int .i64 a2, .int .i64 a3, .int .i64 a4, .int .i64 a5] 48)) at hbw0
  generalize ((w.alloc (.cells #[.slice A n c, .slice B m d, .int .i64 l.office, .int .i64 l.bank, .int .i64 l.begun, .int .i64 l.inn, .int .i64 l.out, .slice D q e] 26)).alloc (.cells #[.int .u8 a0, .int .i64 a1, .int .i64 a2, .int .i64 a3, .int .i64 a4, .int .i64 a5] 48)) = W0 at *
  have x0 : W0.cell? ⟨w.heap.size, 0, none⟩ = _ := hX0.cell (i := 0) rfl
  have x1 : W0.cell? ⟨w.heap.size, 1, none⟩ = _ := hX0.cell (i := 1) rfl
  have x2 : W0.cell? ⟨w.heap.size, 2, none⟩ = _ := hX0.cell (i := 2) rfl
  have x3 : W0.cell? ⟨w.heap.size, 3, none⟩ = _ := hX0.cell (i := 3) rfl
  have x4 : W0.cell? ⟨w.heap.size, 4, none⟩ = _ := hX0.cell (i := 4) rfl
  have x5 : W0.cell? ⟨w.heap.size, 5, none⟩ = _ := hX0.cell (i := 5) rfl
  have x6 : W0.cell? ⟨w.heap.size, 6, none⟩ = _ := hX0.cell (i := 6) rfl
  have x7 : W0.cell? ⟨w.heap.size, 7, none⟩ = _ := hX0.cell (i := 7) rfl
  go_wp2_with fail
  refine (CS.out _).mono ?_; rintro r W1 ⟨rfl, hb1⟩
  have hbw1 := ext_trans hbw0 hb1
  have hX1 := hX0.ext hb1
  have hU1 := hU0.ext hb1
  clear hbw0 hb1 hX0 hU0 x0 x1 x2 x3 x4 x5 x6 x7 CS
  obtain ⟨sm, hsm⟩ : ∃ b, (decide (n ≤ 15) && (decide (m ≤ 105) && decide (q ≤ 105))) = b := ⟨_, rfl⟩
  rw [hsm]
  have Hsm := Lib.hid hsm
  clear hsm
  cases sm
  · skip
    go_wp2_with fail
    refine (awake_any _).mono ?_; rintro r wz ⟨rfl, hbz⟩
    go_wp2
    go_ret
    exact ⟨rfl, ext_trans hbw1 hbz⟩
  have hsz : n ≤ 15 ∧ m ≤ 105 ∧ q ≤ 105 := by have := Hsm.out; simpa using this
  obtain ⟨hn15, hm105, hq105⟩ := hsz
  go_upto_region 3 with fail
  have HX := Lib.hid (fun W hb => hX1.ext (w' := W) hb)
  have HU := Lib.hid (fun W hb => hU1.ext (w' := W) hb)
  have hXl := hX1.lt
  have hUl := hU1.lt
  go_cut [5, 6] (fun y z W => ∃ N A3 n3 c3 B3 m3 d3 D3 q3 e3, y = .pointer (some ⟨N, 0, none⟩) ∧ z = .int .i64 code ∧ Blk W N 34 [.slice A3 n3 c3, .slice B3 m3 d3, .int .i64 nx.office, .int .i64 nx.bank, .int .i64 nx.begun, .int .i64 nx.inn, .int .i64 nx.out, .slice D3 q3 e3] ∧ LedM W nx A3 n3 B3 m3 D3 q3 ∧ Below W1.heap.size W1 W)
  case first =>
    refine Dr.Any.wp_region_plan 11 (Dr.Any.from_ W1.drew.heap.size) (.q [0, 2] (.e2 1 (.e2 3 (.e2 4 (.q [5, 6, 7] (.e1 8 (.e1 9 (.q [10] .done)))) 8 (.e1 4 (.q [5, 6, 7] (.e1 9 (.q [10] .done))))) 8 (.e1 3 (.e1 4 (.q [5, 6, 7] (.e1 9 (.q [10] .done)))))) 8 (.e1 1 (.e1 3 (.e1 4 (.q [5, 6, 7] (.e1 9 (.q [10] .done)))))))) (by kernel_rfl) (by kernel_rfl) ?_
    have hbd := ext_drew W1
    have hPd := hX1.ext hbd
    have hUd := hU1.ext hbd
    have hM := HM.out _ (ext_trans hbw1 hbd) (by omega) (by omega) (by omega)
    have hs0 := hbd.size
    clear hX1 hU1 CR CDR Hdf HX HU
    generalize W1.drew = V0 at *
    have hbv := Below.refl V0.heap.size V0
    have qq0 := Dr.Any.cls_cell (M := Dr.Any.from_ V0.heap.size) (hPd.cell (i := 0) rfl) (by rw [Dr.Any.mem_from]; simp only; omega)
    have qq1 := Dr.Any.cls_cell (M := Dr.Any.from_ V0.heap.size) (hPd.cell (i := 1) rfl) (by rw [Dr.Any.mem_from]; simp only; omega)
    have qq2 := Dr.Any.cls_cell (M := Dr.Any.from_ V0.heap.size) (hPd.cell (i := 2) rfl) (by rw [Dr.Any.mem_from]; simp only; omega)
    have qq3 := Dr.Any.cls_cell (M := Dr.Any.from_ V0.heap.size) (hPd.cell (i := 3) rfl) (by rw [Dr.Any.mem_from]; simp only; omega)
    have qq4 := Dr.Any.cls_cell (M := Dr.Any.from_ V0.heap.size) (hPd.cell (i := 4) rfl) (by rw [Dr.Any.mem_from]; simp only; omega)
    have qq5 := Dr.Any.cls_cell (M := Dr.Any.from_ V0.heap.size) (hPd.cell (i := 5) rfl) (by rw [Dr.Any.mem_from]; simp only; omega)
    have qq6 := Dr.Any.cls_cell (M := Dr.Any.from_ V0.heap.size) (hPd.cell (i := 6) rfl) (by rw [Dr.Any.mem_from]; simp only; omega)
    have qq7 := Dr.Any.cls_cell (M := Dr.Any.from_ V0.heap.size) (hPd.cell (i := 7) rfl) (by rw [Dr.Any.mem_from]; simp only; omega)
    have vv0 := Dr.Any.cls_cell (M := Dr.Any.from_ V0.heap.size) (hUd.cell (i := 0) rfl) (by rw [Dr.Any.mem_from]; simp only; omega)
    have vv1 := Dr.Any.cls_cell (M := Dr.Any.from_ V0.heap.size) (hUd.cell (i := 1) rfl) (by rw [Dr.Any.mem_from]; simp only; omega)
    have vv2 := Dr.Any.cls_cell (M := Dr.Any.from_ V0.heap.size) (hUd.cell (i := 2) rfl) (by rw [Dr.Any.mem_from]; simp only; omega)
    have vv3 := Dr.Any.cls_cell (M := Dr.Any.from_ V0.heap.size) (hUd.cell (i := 3) rfl) (by rw [Dr.Any.mem_from]; simp only; omega)
    have vv4 := Dr.Any.cls_cell (M := Dr.Any.from_ V0.heap.size) (hUd.cell (i := 4) rfl) (by rw [Dr.Any.mem_from]; simp only; omega)
    have vv5 := Dr.Any.cls_cell (M := Dr.Any.from_ V0.heap.size) (hUd.cell (i := 5) rfl) (by rw [Dr.Any.mem_from]; simp only; omega)
    refine Dr.Any.plan_q (l := [_, _]) rfl (fun K hK => ?_)
    iterate 2 (go_big_quiet_step (fail))
    refine wpQuiet_nil (hK _ ?_); clear hK K
    clear qq0 qq1 qq2 qq3 qq4 qq5 qq6 qq7 vv0 vv1 vv2 vv3 vv4 vv5 hPd hUd
    refine Dr.Any.plan_e2 ?_ ?_
    · skip
      refine Dr.Any.plan_e rfl (by rfl) (fun K hK => ?_)
      go_wp2_with fail
      refine (CL.out _ hM).mono ?_; rintro r V1 ⟨A9, c9, B9, d9, D9, e9, rfl, hLd, hbn⟩
      refine hK _ _ (.of hbn) ?_; clear hK K hM
      replace hbv := ext_trans hbv hbn
      have hsV1 := hbn.size
      refine Dr.Any.plan_e2 ?_ ?_
      · skip
        refine Dr.Any.plan_e rfl (by rfl) (fun K hK => ?_)
        go_wp2_with fail
        refine (CA.out _).mono ?_; rintro r V2 ⟨rfl, hbn⟩
        refine hK _ _ (.of hbn) ?_; clear hK K
        replace hLd := hLd.ext hbn
        replace hbv := ext_trans hbv hbn
        have hsV2 := hbn.size
        refine Dr.Any.plan_e2 ?_ ?_
        · skip
          refine Dr.Any.plan_e rfl (by rfl) (fun K hK => ?_)
          go_wp2_with fail
          refine (CD.out _ _ _ _ _ _ _ hLd).mono ?_; rintro r V3 ⟨v6, rfl, ⟨A3, n3, c3, B3, m3, d3, D3, q3, e3, rfl, L6⟩, hbn⟩
          unfold ledV
          refine hK _ _ (.of hbn) ?_; clear hK K hLd
          replace hbv := ext_trans hbv hbn
          have hsV3 := hbn.size
          refine Dr.Any.plan_q (l := [_, _, _]) rfl (fun K hK => ?_)
          iterate 3 (go_big_quiet_step (fail))
          refine wpQuiet_nil (hK _ ?_); clear hK K
          refine Dr.Any.plan_e rfl (by rfl) (fun K hK => ?_)
          go_wp2_with fail
          refine hK _ _ (.of (ext_alloc _ _)) ?_; clear hK K
          have hP5 := Blk.new V3 34 [.slice none 0 0, .slice none 0 0, .int .i64 0, .int .i64 0, .int .i64 0, .int .i64 0, .int .i64 0, .slice none 0 0]
          have hAl := ext_alloc V3 (.cells #[.slice none 0 0, .slice none 0 0, .int .i64 0, .int .i64 0, .int .i64 0, .int .i64 0, .int .i64 0, .slice none 0 0] 34)
          replace hbv := ext_trans hbv hAl
          have hsV4 := hAl.size
          have hP5g : V0.heap.size ≤ V3.heap.size := by omega
          change Blk (V3.alloc (.cells #[.slice none 0 0, .slice none 0 0, .int .i64 0, .int .i64 0, .int .i64 0, .int .i64 0, .int .i64 0, .slice none 0 0] 34)) _ _ _ at hP5
          have L7 := L6.ext hAl
          clear hAl
          generalize hP5e : V3.heap.size = P5 at *
          generalize V3.alloc (.cells #[.slice none 0 0, .slice none 0 0, .int .i64 0, .int .i64 0, .int .i64 0, .int .i64 0, .int .i64 0, .slice none 0 0] 34) = V4 at *
          have hP5l := hP5.lt
          have y0 : V4.cell? ⟨P5, 0, none⟩ = _ := hP5.cell (i := 0) rfl
          have y1 : V4.cell? ⟨P5, 1, none⟩ = _ := hP5.cell (i := 1) rfl
          have y2 : V4.cell? ⟨P5, 2, none⟩ = _ := hP5.cell (i := 2) rfl
          have y3 : V4.cell? ⟨P5, 3, none⟩ = _ := hP5.cell (i := 3) rfl
          have y4 : V4.cell? ⟨P5, 4, none⟩ = _ := hP5.cell (i := 4) rfl
          have y5 : V4.cell? ⟨P5, 5, none⟩ = _ := hP5.cell (i := 5) rfl
          have y6 : V4.cell? ⟨P5, 6, none⟩ = _ := hP5.cell (i := 6) rfl
          have y7 : V4.cell? ⟨P5, 7, none⟩ = _ := hP5.cell (i := 7) rfl
          have f0 := hP5.free 0
          have f1 := hP5.free 1
          have f2 := hP5.free 2
          have f3 := hP5.free 3
          have f4 := hP5.free 4
          have f5 := hP5.free 5
          have f6 := hP5.free 6
          have f7 := hP5.free 7
          refine Dr.Any.plan_e rfl (by rfl) (fun K hK => ?_)
          go_wp2_with fail
          generalize hWf : World.setCell _ _ (Value.slice D3 q3 e3) = Wf
          have hPf := hP5.put_eq [.slice A3 n3 c3, .slice B3 m3 d3, .int .i64 nx.office, .int .i64 nx.bank, .int .i64 nx.begun, .int .i64 nx.inn, .int .i64 nx.out, .slice D3 q3 e3] hWf rfl
          have hbf : Dr.Bel [P5] V4 Wf := bel_put_eq [.slice A3 n3 c3, .slice B3 m3 d3, .int .i64 nx.office, .int .i64 nx.bank, .int .i64 nx.begun, .int .i64 nx.inn, .int .i64 nx.out, .slice D3 q3 e3] hWf
          clear hWf y0 y1 y2 y3 y4 y5 y6 y7 f0 f1 f2 f3 f4 f5 f6 f7
          refine hK _ _ (bel_any hbf (by rw [Dr.Any.mem_from]; omega)) ?_; clear hK K
          refine Dr.Any.plan_q (l := [_]) rfl (fun K hK => ?_)
          iterate 1 (go_big_quiet_step (fail))
          refine wpQuiet_nil (hK _ ?_); clear hK K
          refine Dr.Any.plan_end rfl ?_
          go_wp2
          go_meet
          case rel => exact ⟨P5, A3, n3, c3, B3, m3, d3, D3, q3, e3, rfl, rfl, hPf, (L7.bel1 hbf (fun k hk => by have := (L6.fa k hk).2; omega) (fun k hk => by have := (L6.fb k hk).2; omega) (fun k hk => by have := (L6.fd k hk).2; omega)).m, ext_trans hbd (hbv.trans (hbf.old (by omega) (by simp; omega)))⟩
        · skip
          refine Dr.Any.plan_e rfl (by rfl) (fun K hK => ?_)
          go_wp2_with fail
          refine hK _ _ (.of (ext_alloc _ _)) ?_; clear hK K
          have hP5 := Blk.new V2 34 [.slice none 0 0, .slice none 0 0, .int .i64 0, .int .i64 0, .int .i64 0, .int .i64 0, .int .i64 0, .slice none 0 0]
          have hAl := ext_alloc V2 (.cells #[.slice none 0 0, .slice none 0 0, .int .i64 0, .int .i64 0, .int .i64 0, .int .i64 0, .int .i64 0, .slice none 0 0] 34)
          replace hbv := ext_trans hbv hAl
          have hsV3 := hAl.size
          have hP5g : V0.heap.size ≤ V2.heap.size := by omega
          change Blk (V2.alloc (.cells #[.slice none 0 0, .slice none 0 0, .int .i64 0, .int .i64 0, .int .i64 0, .int .i64 0, .int .i64 0, .slice none 0 0] 34)) _ _ _ at hP5
          replace hLd := hLd.ext hAl
          clear hAl
          generalize hP5e : V2.heap.size = P5 at *
          generalize V2.alloc (.cells #[.slice none 0 0, .slice none 0 0, .int .i64 0, .int .i64 0, .int .i64 0, .int .i64 0, .int .i64 0, .slice none 0 0] 34) = V3 at *
          have hP5l := hP5.lt
          refine Dr.Any.plan_e rfl (by rfl) (fun K hK => ?_)
          go_wp2_with fail
          refine (CD.out _ _ _ _ _ _ _ hLd).mono ?_; rintro r V4 ⟨v6, rfl, ⟨A3, n3, c3, B3, m3, d3, D3, q3, e3, rfl, L6⟩, hbn⟩
          unfold ledV
          refine hK _ _ (.of hbn) ?_; clear hK K hLd
          replace hbv := ext_trans hbv hbn
          have hsV4 := hbn.size
          replace hP5 := hP5.ext hbn
          refine Dr.Any.plan_q (l := [_, _, _]) rfl (fun K hK => ?_)
          iterate 3 (go_big_quiet_step (fail))
          refine wpQuiet_nil (hK _ ?_); clear hK K
          have y0 : V4.cell? ⟨P5, 0, none⟩ = _ := hP5.cell (i := 0) rfl
          have y1 : V4.cell? ⟨P5, 1, none⟩ = _ := hP5.cell (i := 1) rfl
          have y2 : V4.cell? ⟨P5, 2, none⟩ = _ := hP5.cell (i := 2) rfl
          have y3 : V4.cell? ⟨P5, 3, none⟩ = _ := hP5.cell (i := 3) rfl
          have y4 : V4.cell? ⟨P5, 4, none⟩ = _ := hP5.cell (i := 4) rfl
          have y5 : V4.cell? ⟨P5, 5, none⟩ = _ := hP5.cell (i := 5) rfl
          have y6 : V4.cell? ⟨P5, 6, none⟩ = _ := hP5.cell (i := 6) rfl
          have y7 : V4.cell? ⟨P5, 7, none⟩ = _ := hP5.cell (i := 7) rfl
          have f0 := hP5.free 0
          have f1 := hP5.free 1
          have f2 := hP5.free 2
          have f3 := hP5.free 3
          have f4 := hP5.free 4
          have f5 := hP5.free 5
          have f6 := hP5.free 6
          have f7 := hP5.free 7
          refine Dr.Any.plan_e rfl (by rfl) (fun K hK => ?_)
          go_wp2_with fail
          generalize hWf : World.setCell _ _ (Value.slice D3 q3 e3) = Wf
          have hPf := hP5.put_eq [.slice A3 n3 c3, .slice B3 m3 d3, .int .i64 nx.office, .int .i64 nx.bank, .int .i64 nx.begun, .int .i64 nx.inn, .int .i64 nx.out, .slice D3 q3 e3] hWf rfl
          have hbf : Dr.Bel [P5] V4 Wf := bel_put_eq [.slice A3 n3 c3, .slice B3 m3 d3, .int .i64 nx.office, .int .i64 nx.bank, .int .i64 nx.begun, .int .i64 nx.inn, .int .i64 nx.out, .slice D3 q3 e3] hWf
          clear hWf y0 y1 y2 y3 y4 y5 y6 y7 f0 f1 f2 f3 f4 f5 f6 f7
          refine hK _ _ (bel_any hbf (by rw [Dr.Any.mem_from]; omega)) ?_; clear hK K
          refine Dr.Any.plan_q (l := [_]) rfl (fun K hK => ?_)
          iterate 1 (go_big_quiet_step (fail))
          refine wpQuiet_nil (hK _ ?_); clear hK K
          refine Dr.Any.plan_end rfl ?_
          go_wp2
          go_meet
          case rel => exact ⟨P5, A3, n3, c3, B3, m3, d3, D3, q3, e3, rfl, rfl, hPf, (L6.bel1 hbf (fun k hk => by have := (L6.fa k hk).1; omega) (fun k hk => by have := (L6.fb k hk).1; omega) (fun k hk => by have := (L6.fd k hk).1; omega)).m, ext_trans hbd (hbv.trans (hbf.old (by omega) (by simp; omega)))⟩
      · skip
        refine Dr.Any.plan_e rfl (by rfl) (fun K hK => ?_)
        go_wp2_with fail
        refine hK _ _ (.of (ext_alloc _ _)) ?_; clear hK K
        have hP5 := Blk.new V1 34 [.slice none 0 0, .slice none 0 0, .int .i64 0, .int .i64 0, .int .i64 0, .int .i64 0, .int .i64 0, .slice none 0 0]
        have hAl := ext_alloc V1 (.cells #[.slice none 0 0, .slice none 0 0, .int .i64 0, .int .i64 0, .int .i64 0, .int .i64 0, .int .i64 0, .slice none 0 0] 34)
        replace hbv := ext_trans hbv hAl
        have hsV2 := hAl.size
        have hP5g : V0.heap.size ≤ V1.heap.size := by omega
        change Blk (V1.alloc (.cells #[.slice none 0 0, .slice none 0 0, .int .i64 0, .int .i64 0, .int .i64 0, .int .i64 0, .int .i64 0, .slice none 0 0] 34)) _ _ _ at hP5
        replace hLd := hLd.ext hAl
        clear hAl
        generalize hP5e : V1.heap.size = P5 at *
        generalize V1.alloc (.cells #[.slice none 0 0, .slice none 0 0, .int .i64 0, .int .i64 0, .int .i64 0, .int .i64 0, .int .i64 0, .slice none 0 0] 34) = V2 at *
        have hP5l := hP5.lt
        refine Dr.Any.plan_e rfl (by rfl) (fun K hK => ?_)
        go_wp2_with fail
        refine (CA.out _).mono ?_; rintro r V3 ⟨rfl, hbn⟩
        refine hK _ _ (.of hbn) ?_; clear hK K
        replace hLd := hLd.ext hbn
        replace hbv := ext_trans hbv hbn
        have hsV3 := hbn.size
        replace hP5 := hP5.ext hbn
        refine Dr.Any.plan_e rfl (by rfl) (fun K hK => ?_)
        go_wp2_with fail
        refine (CD.out _ _ _ _ _ _ _ hLd).mono ?_; rintro r V4 ⟨v6, rfl, ⟨A3, n3, c3, B3, m3, d3, D3, q3, e3, rfl, L6⟩, hbn⟩
        unfold ledV
        refine hK _ _ (.of hbn) ?_; clear hK K hLd
        replace hbv := ext_trans hbv hbn
        have hsV4 := hbn.size
        replace hP5 := hP5.ext hbn
        refine Dr.Any.plan_q (l := [_, _, _]) rfl (fun K hK => ?_)
        iterate 3 (go_big_quiet_step (fail))
        refine wpQuiet_nil (hK _ ?_); clear hK K
        have y0 : V4.cell? ⟨P5, 0, none⟩ = _ := hP5.cell (i := 0) rfl
        have y1 : V4.cell? ⟨P5, 1, none⟩ = _ := hP5.cell (i := 1) rfl
        have y2 : V4.cell? ⟨P5, 2, none⟩ = _ := hP5.cell (i := 2) rfl
        have y3 : V4.cell? ⟨P5, 3, none⟩ = _ := hP5.cell (i := 3) rfl
        have y4 : V4.cell? ⟨P5, 4, none⟩ = _ := hP5.cell (i := 4) rfl
        have y5 : V4.cell? ⟨P5, 5, none⟩ = _ := hP5.cell (i := 5) rfl
        have y6 : V4.cell? ⟨P5, 6, none⟩ = _ := hP5.cell (i := 6) rfl
        have y7 : V4.cell? ⟨P5, 7, none⟩ = _ := hP5.cell (i := 7) rfl
        have f0 := hP5.free 0
        have f1 := hP5.free 1
        have f2 := hP5.free 2
        have f3 := hP5.free 3
        have f4 := hP5.free 4
        have f5 := hP5.free 5
        have f6 := hP5.free 6
        have f7 := hP5.free 7
        refine Dr.Any.plan_e rfl (by rfl) (fun K hK => ?_)
        go_wp2_with fail
        generalize hWf : World.setCell _ _ (Value.slice D3 q3 e3) = Wf
        have hPf := hP5.put_eq [.slice A3 n3 c3, .slice B3 m3 d3, .int .i64 nx.office, .int .i64 nx.bank, .int .i64 nx.begun, .int .i64 nx.inn, .int .i64 nx.out, .slice D3 q3 e3] hWf rfl
        have hbf : Dr.Bel [P5] V4 Wf := bel_put_eq [.slice A3 n3 c3, .slice B3 m3 d3, .int .i64 nx.office, .int .i64 nx.bank, .int .i64 nx.begun, .int .i64 nx.inn, .int .i64 nx.out, .slice D3 q3 e3] hWf
        clear hWf y0 y1 y2 y3 y4 y5 y6 y7 f0 f1 f2 f3 f4 f5 f6 f7
        refine hK _ _ (bel_any hbf (by rw [Dr.Any.mem_from]; omega)) ?_; clear hK K
        refine Dr.Any.plan_q (l := [_]) rfl (fun K hK => ?_)
        iterate 1 (go_big_quiet_step (fail))
        refine wpQuiet_nil (hK _ ?_); clear hK K
        refine Dr.Any.plan_end rfl ?_
        go_wp2
        go_meet
        case rel => exact ⟨P5, A3, n3, c3, B3, m3, d3, D3, q3, e3, rfl, rfl, hPf, (L6.bel1 hbf (fun k hk => by have := (L6.fa k hk).1; omega) (fun k hk => by have := (L6.fb k hk).1; omega) (fun k hk => by have := (L6.fd k hk).1; omega)).m, ext_trans hbd (hbv.trans (hbf.old (by omega) (by simp; omega)))⟩
    · skip
      refine Dr.Any.plan_e rfl (by rfl) (fun K hK => ?_)
      go_wp2_with fail
      refine hK _ _ (.of (ext_alloc _ _)) ?_; clear hK K
      have hP5 := Blk.new V0 34 [.slice none 0 0, .slice none 0 0, .int .i64 0, .int .i64 0, .int .i64 0, .int .i64 0, .int .i64 0, .slice none 0 0]
      have hAl := ext_alloc V0 (.cells #[.slice none 0 0, .slice none 0 0, .int .i64 0, .int .i64 0, .int .i64 0, .int .i64 0, .int .i64 0, .slice none 0 0] 34)
      replace hbv := ext_trans hbv hAl
      have hsV1 := hAl.size
      have hP5g : V0.heap.size ≤ V0.heap.size := by omega
      change Blk (V0.alloc (.cells #[.slice none 0 0, .slice none 0 0, .int .i64 0, .int .i64 0, .int .i64 0, .int .i64 0, .int .i64 0, .slice none 0 0] 34)) _ _ _ at hP5
      replace hM := hM.ext hAl
      clear hAl
      obtain ⟨P5, hP5e⟩ : ∃ P5, V0.heap.size = P5 := ⟨_, rfl⟩
      rw [hP5e] at hP5
      generalize V0.alloc (.cells #[.slice none 0 0, .slice none 0 0, .int .i64 0, .int .i64 0, .int .i64 0, .int .i64 0, .int .i64 0, .slice none 0 0] 34) = V1 at *
      rw [hP5e]
      have hP5l := hP5.lt
      refine Dr.Any.plan_e rfl (by rfl) (fun K hK => ?_)
      go_wp2_with fail
      refine (CL.out _ hM).mono ?_; rintro r V2 ⟨A9, c9, B9, d9, D9, e9, rfl, hLd, hbn⟩
      refine hK _ _ (.of hbn) ?_; clear hK K hM
      replace hbv := ext_trans hbv hbn
      have hsV2 := hbn.size
      replace hP5 := hP5.ext hbn
      refine Dr.Any.plan_e rfl (by rfl) (fun K hK => ?_)
      go_wp2_with fail
      refine (CA.out _).mono ?_; rintro r V3 ⟨rfl, hbn⟩
      refine hK _ _ (.of hbn) ?_; clear hK K
      replace hLd := hLd.ext hbn
      replace hbv := ext_trans hbv hbn
      have hsV3 := hbn.size
      replace hP5 := hP5.ext hbn
      refine Dr.Any.plan_e rfl (by rfl) (fun K hK => ?_)
      go_wp2_with fail
      refine (CD.out _ _ _ _ _ _ _ hLd).mono ?_; rintro r V4 ⟨v6, rfl, ⟨A3, n3, c3, B3, m3, d3, D3, q3, e3, rfl, L6⟩, hbn⟩
      unfold ledV
      refine hK _ _ (.of hbn) ?_; clear hK K hLd
      replace hbv := ext_trans hbv hbn
      have hsV4 := hbn.size
      replace hP5 := hP5.ext hbn
      refine Dr.Any.plan_q (l := [_, _, _]) rfl (fun K hK => ?_)
      iterate 3 (go_big_quiet_step (fail))
      refine wpQuiet_nil (hK _ ?_); clear hK K
      have y0 : V4.cell? ⟨P5, 0, none⟩ = _ := hP5.cell (i := 0) rfl
      have y1 : V4.cell? ⟨P5, 1, none⟩ = _ := hP5.cell (i := 1) rfl
      have y2 : V4.cell? ⟨P5, 2, none⟩ = _ := hP5.cell (i := 2) rfl
      have y3 : V4.cell? ⟨P5, 3, none⟩ = _ := hP5.cell (i := 3) rfl
      have y4 : V4.cell? ⟨P5, 4, none⟩ = _ := hP5.cell (i := 4) rfl
      have y5 : V4.cell? ⟨P5, 5, none⟩ = _ := hP5.cell (i := 5) rfl
      have y6 : V4.cell? ⟨P5, 6, none⟩ = _ := hP5.cell (i := 6) rfl
      have y7 : V4.cell? ⟨P5, 7, none⟩ = _ := hP5.cell (i := 7) rfl
      have f0 := hP5.free 0
      have f1 := hP5.free 1
      have f2 := hP5.free 2
      have f3 := hP5.free 3
      have f4 := hP5.free 4
      have f5 := hP5.free 5
      have f6 := hP5.free 6
      have f7 := hP5.free 7
      refine Dr.Any.plan_e rfl (by rfl) (fun K hK => ?_)
      go_wp2_with fail
      generalize hWf : World.setCell _ _ (Value.slice D3 q3 e3) = Wf
      have hPf := hP5.put_eq [.slice A3 n3 c3, .slice B3 m3 d3, .int .i64 nx.office, .int .i64 nx.bank, .int .i64 nx.begun, .int .i64 nx.inn, .int .i64 nx.out, .slice D3 q3 e3] hWf rfl
      have hbf : Dr.Bel [P5] V4 Wf := bel_put_eq [.slice A3 n3 c3, .slice B3 m3 d3, .int .i64 nx.office, .int .i64 nx.bank, .int .i64 nx.begun, .int .i64 nx.inn, .int .i64 nx.out, .slice D3 q3 e3] hWf
      clear hWf y0 y1 y2 y3 y4 y5 y6 y7 f0 f1 f2 f3 f4 f5 f6 f7
      refine hK _ _ (bel_any hbf (by rw [Dr.Any.mem_from]; omega)) ?_; clear hK K
      refine Dr.Any.plan_q (l := [_]) rfl (fun K hK => ?_)
      iterate 1 (go_big_quiet_step (fail))
      refine wpQuiet_nil (hK _ ?_); clear hK K
      refine Dr.Any.plan_end rfl ?_
      go_wp2
      go_meet
      case rel => exact ⟨P5, A3, n3, c3, B3, m3, d3, D3, q3, e3, rfl, rfl, hPf, (L6.bel1 hbf (fun k hk => by have := (L6.fa k hk).1; omega) (fun k hk => by have := (L6.fb k hk).1; omega) (fun k hk => by have := (L6.fd k hk).1; omega)).m, ext_trans hbd (hbv.trans (hbf.old (by omega) (by simp; omega)))⟩
  case rest =>
  obtain ⟨N, A3, n3, c3, B3, m3, d3, D3, q3, e3, rfl, rfl, hY, hL3, hb3⟩ := hcut
  generalize wc = W2 at *
  have hbw2 := ext_trans hbw1 hb3
  have hX2 := HX.out _ hb3
  have hU2 := HU.out _ hb3
  clear hb3 hX1 hU1 HX HU hbw1 CL CA CD
  have hM := HM.out _ hbw2 (by omega) (by omega) (by omega)
  have x0 : W2.cell? ⟨w.heap.size, 0, none⟩ = _ := hX2.cell (i := 0) rfl
  have x1 : W2.cell? ⟨w.heap.size, 1, none⟩ = _ := hX2.cell (i := 1) rfl
  have x2 : W2.cell? ⟨w.heap.size, 2, none⟩ = _ := hX2.cell (i := 2) rfl
  have x3 : W2.cell? ⟨w.heap.size, 3, none⟩ = _ := hX2.cell (i := 3) rfl
  have x4 : W2.cell? ⟨w.heap.size, 4, none⟩ = _ := hX2.cell (i := 4) rfl
  have x5 : W2.cell? ⟨w.heap.size, 5, none⟩ = _ := hX2.cell (i := 5) rfl
  have x6 : W2.cell? ⟨w.heap.size, 6, none⟩ = _ := hX2.cell (i := 6) rfl
  have x7 : W2.cell? ⟨w.heap.size, 7, none⟩ = _ := hX2.cell (i := 7) rfl
  go_wp2_with fail
  refine (CR.out _ hM).mono ?_; rintro r W3 ⟨rfl, hb4⟩
  have hbw3 := ext_trans hbw2 hb4
  have hX3 := hX2.ext hb4
  have hU3 := hU2.ext hb4
  have hY3 := hY.ext hb4
  have hL4 := hL3.ext hb4
  clear hb4 hX2 hU2 hY hL3 hM x0 x1 x2 x3 x4 x5 x6 x7 CR hbw2
  cases hok : l.okB
  · have hf := Hdf.out
    rw [hok] at hf
    simp only [Bool.false_eq_true, if_false, Prod.mk.injEq] at hf
    obtain ⟨rfl, rfl⟩ := hf
    obtain rfl : n3 = 0 := hL4.hn.symm
    obtain rfl : m3 = 0 := hL4.hm.symm
    obtain rfl : q3 = 0 := hL4.hq.symm
    have CAl := Lib.hid (alike_self Led.zero A3 0 c3 B3 0 d3 D3 0 e3 none 0 none 0 none 0 W3 hL4 (lz_m W3))
    unfold ledV at CAl
    simp only [Led.zero] at CAl hY3
    have y0 : W3.cell? ⟨N, 0, none⟩ = _ := hY3.cell (i := 0) rfl
    have y1 : W3.cell? ⟨N, 1, none⟩ = _ := hY3.cell (i := 1) rfl
    have y2 : W3.cell? ⟨N, 2, none⟩ = _ := hY3.cell (i := 2) rfl
    have y3 : W3.cell? ⟨N, 3, none⟩ = _ := hY3.cell (i := 3) rfl
    have y4 : W3.cell? ⟨N, 4, none⟩ = _ := hY3.cell (i := 4) rfl
    have y5 : W3.cell? ⟨N, 5, none⟩ = _ := hY3.cell (i := 5) rfl
    have y6 : W3.cell? ⟨N, 6, none⟩ = _ := hY3.cell (i := 6) rfl
    have y7 : W3.cell? ⟨N, 7, none⟩ = _ := hY3.cell (i := 7) rfl
    go_wp2_with fail
    refine CAl.out.mono ?_; rintro r W4 ⟨rfl, hb4⟩
    have hbw4 := ext_trans hbw3 hb4
    clear y0 y1 y2 y3 y4 y5 y6 y7 CAl
    go_wp2_with fail
    refine (awake_any _).mono ?_; rintro r wz ⟨rfl, hbz⟩
    go_wp2
    go_ret
    exact ⟨rfl, ext_trans hbw4 hbz⟩
  have hf := Hdf.out
  rw [hok] at hf
  simp only [if_true] at hf
  obtain ⟨hmon, hq9, -, -⟩ := ok_mon hok
  have hM := HM.out _ hbw3 (by omega) (by omega) (by omega)
  rw [hM.hq] at hq9
  have CDR1 := Lib.hid (CDR.out _ hM hmon (by omega))
  rw [← hf] at CDR1
  clear CDR Hdf hf hmon hM
  simp only at CDR1
  go_upto_region 6 with fail
  have x0 : W3.cell? ⟨w.heap.size, 0, none⟩ = _ := hX3.cell (i := 0) rfl
  have x1 : W3.cell? ⟨w.heap.size, 1, none⟩ = _ := hX3.cell (i := 1) rfl
  have x2 : W3.cell? ⟨w.heap.size, 2, none⟩ = _ := hX3.cell (i := 2) rfl
  have x3 : W3.cell? ⟨w.heap.size, 3, none⟩ = _ := hX3.cell (i := 3) rfl
  have x4 : W3.cell? ⟨w.heap.size, 4, none⟩ = _ := hX3.cell (i := 4) rfl
  have x5 : W3.cell? ⟨w.heap.size, 5, none⟩ = _ := hX3.cell (i := 5) rfl
  have x6 : W3.cell? ⟨w.heap.size, 6, none⟩ = _ := hX3.cell (i := 6) rfl
  have x7 : W3.cell? ⟨w.heap.size, 7, none⟩ = _ := hX3.cell (i := 7) rfl
  have u0 : W3.cell? ⟨w.heap.size + 1, 0, none⟩ = _ := hU3.cell (i := 0) rfl
  have u1 : W3.cell? ⟨w.heap.size + 1, 1, none⟩ = _ := hU3.cell (i := 1) rfl
  have u2 : W3.cell? ⟨w.heap.size + 1, 2, none⟩ = _ := hU3.cell (i := 2) rfl
  have u3 : W3.cell? ⟨w.heap.size + 1, 3, none⟩ = _ := hU3.cell (i := 3) rfl
  have u4 : W3.cell? ⟨w.heap.size + 1, 4, none⟩ = _ := hU3.cell (i := 4) rfl
  have u5 : W3.cell? ⟨w.heap.size + 1, 5, none⟩ = _ := hU3.cell (i := 5) rfl
  go_wp2_with fail
  refine CDR1.out.mono ?_; rintro r W4 ⟨v5, rfl, ⟨A5, n5, c5, B5, m5, d5, D5, q5, e5, rfl, hL5⟩, hb4⟩
  unfold ledV
  have hbw4 := ext_trans hbw3 hb4
  have hY4 := hY3.ext hb4
  have hL6 := hL4.ext hb4
  have hal := ext_alloc W4 (.cells #[.slice A5 n5 c5, .slice B5 m5 d5, .int .i64 nx.office, .int .i64 nx.bank, .int .i64 nx.begun, .int .i64 nx.inn, .int .i64 nx.out, .slice D5 q5 e5] 26)
  have hZ0 := Blk.new W4 26 [.slice A5 n5 c5, .slice B5 m5 d5, .int .i64 nx.office, .int .i64 nx.bank, .int .i64 nx.begun, .int .i64 nx.inn, .int .i64 nx.out, .slice D5 q5 e5]
  have hL7 := hL5.m.ext hal
  have hL8 := hL6.ext hal
  have hY5 := hY4.ext hal
  have hbw5 := ext_trans hbw4 hal
  clear hbw3 hb4 hX3 hU3 hY3 hL4 hY4 hL6 hL5 hbw4 CDR1 x0 x1 x2 x3 x4 x5 x6 x7 u0 u1 u2 u3 u4 u5
  go_upto_region 7 with fail
  change Blk (W4.alloc (.cells #[.slice A5 n5 c5, .slice B5 m5 d5, .int .i64 nx.office, .int .i64 nx.bank, .int .i64 nx.begun, .int .i64 nx.inn, .int .i64 nx.out, .slice D5 q5 e5] 26)) _ _ _ at hZ0
  clear hal
  generalize W4.heap.size = Z at *
  generalize W4.alloc (.cells #[.slice A5 n5 c5, .slice B5 m5 d5, .int .i64 nx.office, .int .i64 nx.bank, .int .i64 nx.begun, .int .i64 nx.inn, .int .i64 nx.out, .slice D5 q5 e5] 26) = W5 at *
  obtain rfl : n3 = n5 := hL8.hn.symm.trans hL7.hn
  obtain rfl : m3 = m5 := hL8.hm.symm.trans hL7.hm
  obtain rfl : q3 = q5 := hL8.hq.symm.trans hL7.hq
  have CSA := Lib.hid (same_self nx A3 n3 c3 B3 m3 d3 D3 q3 e3 A5 c5 B5 d5 D5 e5 W5 hL8 hL7)
  unfold ledV at CSA
  have y0 : W5.cell? ⟨N, 0, none⟩ = _ := hY5.cell (i := 0) rfl
  have y1 : W5.cell? ⟨N, 1, none⟩ = _ := hY5.cell (i := 1) rfl
  have y2 : W5.cell? ⟨N, 2, none⟩ = _ := hY5.cell (i := 2) rfl
  have y3 : W5.cell? ⟨N, 3, none⟩ = _ := hY5.cell (i := 3) rfl
  have y4 : W5.cell? ⟨N, 4, none⟩ = _ := hY5.cell (i := 4) rfl
  have y5 : W5.cell? ⟨N, 5, none⟩ = _ := hY5.cell (i := 5) rfl
  have y6 : W5.cell? ⟨N, 6, none⟩ = _ := hY5.cell (i := 6) rfl
  have y7 : W5.cell? ⟨N, 7, none⟩ = _ := hY5.cell (i := 7) rfl
  have z0 : W5.cell? ⟨Z, 0, none⟩ = _ := hZ0.cell (i := 0) rfl
  have z1 : W5.cell? ⟨Z, 1, none⟩ = _ := hZ0.cell (i := 1) rfl
  have z2 : W5.cell? ⟨Z, 2, none⟩ = _ := hZ0.cell (i := 2) rfl
  have z3 : W5.cell? ⟨Z, 3, none⟩ = _ := hZ0.cell (i := 3) rfl
  have z4 : W5.cell? ⟨Z, 4, none⟩ = _ := hZ0.cell (i := 4) rfl
  have z5 : W5.cell? ⟨Z, 5, none⟩ = _ := hZ0.cell (i := 5) rfl
  have z6 : W5.cell? ⟨Z, 6, none⟩ = _ := hZ0.cell (i := 6) rfl
  have z7 : W5.cell? ⟨Z, 7, none⟩ = _ := hZ0.cell (i := 7) rfl
  go_wp2_with fail
  refine CSA.out.mono ?_; rintro r W6 ⟨rfl, hb6⟩
  have hbw6 := ext_trans hbw5 hb6
  clear y0 y1 y2 y3 y4 y5 y6 y7 z0 z1 z2 z3 z4 z5 z6 z7 CSA
  go_wp2_with fail
  refine (awake_any _).mono ?_; rintro r wz ⟨rfl, hbz⟩
  go_wp2
  go_ret
  exact ⟨rfl, ext_trans hbw6 hbz⟩
end Go.Proofs.YtnjdlhhgnamigaaGreat

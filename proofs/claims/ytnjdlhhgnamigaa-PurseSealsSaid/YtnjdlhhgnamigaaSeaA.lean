/- Walk: the law PurseSeals. -/
import Derived.Test.YtnjdlhhgnamigaaSeaB
import Derived.Test.YtnjdlhhgnamigaaLgnB
import Derived.Test.YtnjdlhhgnamigaaAwC
namespace Go.Pu
theorem begin_code (l : List Int) (o : Int) : (beginL l o).2 = 0 ∨ (beginL l o).2 = 2 := by
  unfold beginL
  simp only
  repeat' split
  all_goals simp
/-- an act whose amount is written, where all do so -/
def Act.hon (b : Bool) (a : Act) : Act := if b then { a with written := a.amount } else a
theorem hon_map (b : Bool) (acts : List Act) : b = true → ∀ a ∈ acts.map (Act.hon b), a.written = a.amount := by
  rintro rfl a ha
  obtain ⟨x, -, rfl⟩ := List.mem_map.1 ha
  rfl
end Go.Pu
namespace Go.Proofs.Ytnjdlhhgnamigaa
open Go.RowKit Go.Bs Go.Pu Go.Pl Go.Sort
set_option maxRecDepth 100000 in
set_option maxHeartbeats 16000000 in
theorem seals_law (F : Option Addr) (f g : Nat) (wins : List Int) (o : Int) (acts : List Pu.Act) (Z : Option Addr) (k kc : Nat) (hon : Bool) (w : World) (hf : wins.length = f) (hf9 : f ≤ 9223372036854775807) (hF : Cells w F 1 encI wins)
    (hk : acts.length = k) (hk9 : k ≤ 9223372036854775807) (hZ : Cells w Z 6 Act.enc acts) :
    Calls Try.prog 11 #[.slice F f g, .int .i64 o, .slice Z k kc, .bool hon] w fun r w' => r = .returned (.bool true) ∧ Below w.heap.size w w' := by
  have HF := Lib.hid hF
  have HZ := Lib.hid (fun W (hb : Below w.heap.size w W) => hZ.ext hb)
  have Hk := Lib.hid hk
  have Hf := Lib.hid hf
  have CB := Lib.hid (fun A g W h9 h => Begin_any wins A f g o W hf h9 h)
  have hcode := begin_code wins o
  have Hbo := Lib.hid (fun h => beginL_ok (wins := wins) (o := o) h)
  generalize beginL wins o = bl at *
  obtain ⟨bl, code⟩ := bl
  simp only at hcode CB Hbo
  have hbw0 := Below.refl w.heap.size w
  clear hF hZ hk hf
  go_enter Try.func11, Try.ntmps11
  go_upto_region 1 with fail
  by_cases h15 : 15 < f
  · have h15' : (15 : Int) < (f : Int) := by omega
    go_wp2_with fail
    refine (awake_any _).mono ?_; rintro r wz ⟨rfl, hbz⟩
    go_wp2
    go_ret
    exact ⟨rfl, ext_trans hbw0 hbz⟩
  have h15' : ¬ (15 : Int) < (f : Int) := by omega
  by_cases h60 : 60 < k
  · have h60' : (60 : Int) < (k : Int) := by omega
    go_wp2_with fail
    refine (awake_any _).mono ?_; rintro r wz ⟨rfl, hbz⟩
    go_wp2
    go_ret
    exact ⟨rfl, ext_trans hbw0 hbz⟩
  have h60' : ¬ (60 : Int) < (k : Int) := by omega
  go_upto_region 3 with fail
  go_wp2_with fail
  refine (list_any F f g wins _ Hf.out (by omega) HF.out).mono ?_; rintro r W2 ⟨v2, rfl, ⟨P2, p2, rfl, -, -, hf2, -⟩, hb2⟩
  rw [Hf.out]
  go_wp2_with fail
  refine (CB.out _ _ _ (by omega) hf2).mono ?_; rintro r W3 ⟨v3, rfl, ⟨A2, n2, c2, B2, m2, d2, D2, q2, e2, rfl, hM3⟩, hb3⟩
  unfold ledV
  have hbw3 := ext_trans hb2 hb3
  have hal := ext_alloc W3 (.cells #[.slice A2 n2 c2, .slice B2 m2 d2, .int .i64 bl.office, .int .i64 bl.bank, .int .i64 bl.begun, .int .i64 bl.inn, .int .i64 bl.out, .slice D2 q2 e2] 81)
  have hP0 := Blk.new W3 81 [.slice A2 n2 c2, .slice B2 m2 d2, .int .i64 bl.office, .int .i64 bl.bank, .int .i64 bl.begun, .int .i64 bl.inn, .int .i64 bl.out, .slice D2 q2 e2]
  have hM4 := hM3.ext hal
  have hbw4 := ext_trans hbw3 hal
  have hof := hM3.off (Nat.le_refl _)
  have hPw := hbw3.size
  clear hb2 hb3 hf2 hbw3 hM3 CB HF
  go_upto_region 4 with fail
  change Blk (W3.alloc (.cells #[.slice A2 n2 c2, .slice B2 m2 d2, .int .i64 bl.office, .int .i64 bl.bank, .int .i64 bl.begun, .int .i64 bl.inn, .int .i64 bl.out, .slice D2 q2 e2] 81)) _ _ _ at hP0
  clear hal
  generalize W3.heap.size = P at *
  generalize W3.alloc (.cells #[.slice A2 n2 c2, .slice B2 m2 d2, .int .i64 bl.office, .int .i64 bl.bank, .int .i64 bl.begun, .int .i64 bl.inn, .int .i64 bl.out, .slice D2 q2 e2] 81) = W4 at *
  clear W3 W2
  rcases hcode with rfl | rfl
  case inr =>
    go_wp2_with fail
    refine (awake_any _).mono ?_; rintro r wz ⟨rfl, hbz⟩
    go_wp2
    go_ret
    exact ⟨rfl, ext_trans hbw4 hbz⟩
  obtain ⟨hok, hbags, hdifs, hwins⟩ := Hbo.out rfl
  have hwl : bl.windows.length = f := by rw [hwins]; exact Hf.out
  have hPl := hP0.lt
  have hI : SeaI W4 P (seaK bl (acts.map (Act.hon hon)) 0) (.slice none 0 0) (.slice none 0 0) W4 := by
    rw [sea_zero]
    exact ⟨OwnL.nil, (by simp only [hbags]; exact OwnL.nil), fun g h => (by cases h), Dr.Bel.refl _ _, A2, n2, c2, B2, m2, d2, D2, q2, e2, hP0, hM4, hof, fun g h => by rcases h with h | h <;> cases h⟩
  have Hinv := Lib.hid (fun j hj => sea_inv (hon := hon) hok hbags hdifs (acts.map (Act.hon hon)) (hon_map hon acts) j hj)
  rw [hwl] at Hinv
  clear hok hbags hdifs hwins hwl hP0 hM4 hof Hbo Hf
  have Hsucc := Lib.hid (fun (j : Nat) (hj : j < (acts.map (Act.hon hon)).length) => sea_succ bl hj)
  have Hml := Lib.hid (show (acts.map (Act.hon hon)).length = k by rw [List.length_map]; exact Hk.out)
  have Hget := Lib.hid (fun (j : Nat) (hj : j < (acts.map (Act.hon hon)).length) (hj2 : j < acts.length) => (show (acts.map (Act.hon hon))[j] = Act.hon hon acts[j] by simp))
  generalize acts.map (Act.hon hon) = acts2 at *
  go_upto_region 8 with fail
  go_wp2
  go_loopw [11, 12, 13, 14, 15, 16] (fun y z x _ _ _ wr => ∃ (j : Nat) (tk tc : Value), tk = y ∧ tc = z ∧ x = .int .i64 j ∧ j ≤ k ∧ SeaI W4 P (seaK bl acts2 j) tk tc wr) (fun _ _ x _ _ _ _ => k - (intOf x).toNat)
  case atStart => exact ⟨0, _, _, rfl, rfl, rfl, by omega, hI⟩
  case round =>
    clear hI
    obtain ⟨j, tk, tc, rfl, rfl, rfl, hj, hI⟩ := hrel
    have hbw := hbw4.trans (hI.bel.old (n := w.heap.size) (by have := hbw4.size; omega) (by simp; omega))
    by_cases hlt : j < k
    · have hlt' : (j : Int) < (k : Int) := by omega
      have hjl : j < acts.length := by rw [Hk.out]; exact hlt
      have hjl2 : j < acts2.length := by rw [Hml.out]; exact hlt
      have HS := Lib.hid (Hinv.out j (by omega))
      have hss := Hsucc.out j hjl2
      rw [Hget.out j hjl2 hjl] at hss
      have Hss := Lib.hid hss
      have HA := Lib.hid (fun W hW => (HZ.out W hW).at6 hjl rfl)
      obtain ⟨zb, zo, rfl, -, c0, c1, c2, c3, c4, c5⟩ := HA.out _ hbw
      clear hss HA
      generalize acts[j] = x at *
      clear hjl hjl2
      obtain ⟨a0, a1, a2, a3, a4, a5⟩ := x
      simp only at c0 c1 c2 c3 c4 c5
      generalize seaK bl acts2 j = s at *
      go_upto_region 12 with fail
      have hU0 := Blk.new wr 88 [.int .u8 a0, .int .i64 a1, .int .i64 a2, .int .i64 a3, .int .i64 a4, .int .i64 a5]
      have hal := ext_alloc wr (.cells #[.int .u8 a0, .int .i64 a1, .int .i64 a2, .int .i64 a3, .int .i64 a4, .int .i64 a5] 88)
      change Blk (wr.alloc (.cells #[.int .u8 a0, .int .i64 a1, .int .i64 a2, .int .i64 a3, .int .i64 a4, .int .i64 a5] 88)) _ _ _ at hU0
      have hI1 := hI.ext hal
      have hbw1 := ext_trans hbw hal
      have hgU : ∀ g, tk.ownBlock = some g ∨ tc.ownBlock = some g → g < wr.heap.size := fun g h => by
        rcases h with h | h
        · exact (hI.o1.lt h).2
        · exact (hI.o2.lt h).2
      have hIb := Lib.hid (fun W (hb : Below wr.heap.size wr W) => And.intro (hI.ext hb) (ext_trans hbw hb))
      clear hI c0 c1 c2 c3 c4 c5
      generalize wr.heap.size = U at *
      generalize wr.alloc (.cells #[.int .u8 a0, .int .i64 a1, .int .i64 a2, .int .i64 a3, .int .i64 a4, .int .i64 a5] 88) = W5 at *
      clear hbw
      have hUl := hU0.lt
      obtain ⟨b5, hb5⟩ : ∃ b, (if hon then a4 else a5) = b := ⟨_, rfl⟩
      have hax : Act.hon hon ⟨a0, a1, a2, a3, a4, a5⟩ = ⟨a0, a1, a2, a3, a4, b5⟩ := by unfold Act.hon; subst hb5; cases hon <;> rfl
      rw [hax] at Hss
      have Hb5 := Lib.hid hb5
      clear hax hb5
      go_upto_if 59 with fail
      go_cut [62] (fun _ W => Blk W U 88 [.int .u8 a0, .int .i64 a1, .int .i64 a2, .int .i64 a3, .int .i64 a4, .int .i64 b5] ∧ SeaI W4 P s tk tc W ∧ Below w.heap.size w W)
      case first =>
        clear Hss HS Hinv Hsucc Hget Hml Hk HZ
        have u4 : W5.cell? ⟨U, 4, none⟩ = _ := hU0.cell (i := 4) rfl
        have u5 : W5.cell? ⟨U, 5, none⟩ = _ := hU0.cell (i := 5) rfl
        have fu := hU0.free 5
        cases hon
        · obtain rfl : a5 = b5 := by simpa using Hb5.out
          go_wp2
          go_meet
          case rel => exact ⟨hU0, hI1, hbw1⟩
        · obtain rfl : a4 = b5 := by simpa using Hb5.out
          go_wp2
          go_meet
          case rel =>
            obtain ⟨k1, k2⟩ := hIb.out (W5.setCell ⟨U, 5, none⟩ (.int .i64 a4)) (hal.trans ((Dr.Bel.store (M := [U]) (p := ⟨U, 5, none⟩) (by simp) _).old (n := U) (by omega) (by simp)))
            exact ⟨by simpa using hU0.set 5 (.int .i64 a4), k1, k2⟩
      case rest =>
        obtain ⟨hU, hI, hbw⟩ := hcut
        generalize wc = W6 at *
        clear hIb hU0 hal hI1 hbw1 Hb5 hUl
        have hUr := hU.lt
        obtain ⟨A1, n1, c1, B1, m1, d1, D1, q1, e1, hP, hL, hof, hog⟩ := hI.box
        have hPr := hP.lt
        have hHS := HS.out
        have hlen : s.tk.length ≤ 100 := by rw [hHS.nk]; exact hHS.ok.m2
        have hbl : (s.l.bags.map Bag.broken).length ≤ 100 := by rw [List.length_map]; exact hHS.ok.m2
        have Hnk := Lib.hid hHS.nk
        have Hbd := Lib.hid hHS.bd
        have CA := Lib.hid (fun W => (show Calls Try.prog 40 #[.agg #[.int .u8 a0, .int .i64 a1, .int .i64 a2, .int .i64 a3, .int .i64 a4, .int .i64 b5]] W fun r w' => r = .returned (.agg #[.int .u8 a0, .int .i64 a1, .int .i64 a2, .int .i64 a3, .int .i64 a4, .int .i64 b5]) ∧ Below W.heap.size W w' from Act_any ⟨a0, a1, a2, a3, a4, b5⟩ W))
        have CD := Lib.hid (fun W h => Do_any s.l ⟨a0, a1, a2, a3, a4, b5⟩ A1 n1 c1 B1 m1 d1 D1 q1 e1 W h)
        have hdf : doF s.l ⟨a0, a1, a2, a3, a4, b5⟩ = doL s.l ⟨a0, a1, a2, a3, a4, b5⟩ := by unfold doF; rw [ok_iff.2 hHS.ok]; rfl
        rw [hdf] at CD
        have Hd := Lib.hid (doL_ok hHS.ok ⟨a0, a1, a2, a3, a4, b5⟩)
        have Hbs := Lib.hid (fun h => broken_step (l := s.l) (a := ⟨a0, a1, a2, a3, a4, b5⟩) h)
        have Hti := Lib.hid (fun h => touch_in (l := s.l) (a := ⟨a0, a1, a2, a3, a4, b5⟩) h)
        have hst : s.step ⟨a0, a1, a2, a3, a4, b5⟩ = if (doL s.l ⟨a0, a1, a2, a3, a4, b5⟩).2 = 0 then ⟨(doL s.l ⟨a0, a1, a2, a3, a4, b5⟩).1, if a0 = 4 then s.tk ++ [0] else if a0 = 5 then s.tk.set a2.toNat (s.tk.getD a2.toNat 0 + a4) else s.tk⟩ else s := rfl
        have Hst := Lib.hid (Hss.out.trans hst)
        clear hdf hst Hss hHS HS
        generalize doL s.l ⟨a0, a1, a2, a3, a4, b5⟩ = nx at *
        obtain ⟨nx, code⟩ := nx
        simp only at Hd Hbs Hti CD Hst
        unfold ledV Act.val at CD
        go_upto_region 14 with fail
        have Hp := Lib.hid hP
        go_cut [15, 16] (fun y z W => ∃ N A3 n3 c3 B3 m3 d3 D3 q3 e3, y = .pointer (some ⟨N, 0, none⟩) ∧ z = .int .i64 code ∧ W6.heap.size ≤ N ∧ Blk W N 81 [.slice A3 n3 c3, .slice B3 m3 d3, .int .i64 nx.office, .int .i64 nx.bank, .int .i64 nx.begun, .int .i64 nx.inn, .int .i64 nx.out, .slice D3 q3 e3] ∧ LedM W nx A3 n3 B3 m3 D3 q3 ∧ (∀ g, g < W6.heap.size → LedOff g A3 n3 B3 m3 D3 q3) ∧ Below W6.heap.size W6 W)
        case first =>
          clear Hst Hbs Hti Hd hof hog Hinv Hsucc Hget Hml Hk HZ Hbd hgU
          have hUk := Lib.hid (fun W hb => hU.ext (w' := W) hb)
          clear hU hI
          refine Dr.Any.wp_region_plan 10 (Dr.Any.from_ W6.drew.heap.size) (.q [0, 1] (.e2 2 (.e2 3 (.q [4, 5, 6] (.e1 7 (.e1 8 (.q [9] .done)))) 7 (.e1 3 (.q [4, 5, 6] (.e1 8 (.q [9] .done))))) 7 (.e1 2 (.e1 3 (.q [4, 5, 6] (.e1 8 (.q [9] .done))))))) (by kernel_rfl) (by kernel_rfl) ?_
          have hbd := ext_drew W6
          have hPd := hP.ext hbd
          have hLd := hL.ext hbd
          have hs0 := hbd.size
          clear hP hL
          generalize W6.drew = V0 at *
          have hbv := Below.refl V0.heap.size V0
          have qq0 := Dr.Any.cls_cell (M := Dr.Any.from_ V0.heap.size) (hPd.cell (i := 0) rfl) (by rw [Dr.Any.mem_from]; simp only; omega)
          have qq1 := Dr.Any.cls_cell (M := Dr.Any.from_ V0.heap.size) (hPd.cell (i := 1) rfl) (by rw [Dr.Any.mem_from]; simp only; omega)
          have qq2 := Dr.Any.cls_cell (M := Dr.Any.from_ V0.heap.size) (hPd.cell (i := 2) rfl) (by rw [Dr.Any.mem_from]; simp only; omega)
          have qq3 := Dr.Any.cls_cell (M := Dr.Any.from_ V0.heap.size) (hPd.cell (i := 3) rfl) (by rw [Dr.Any.mem_from]; simp only; omega)
          have qq4 := Dr.Any.cls_cell (M := Dr.Any.from_ V0.heap.size) (hPd.cell (i := 4) rfl) (by rw [Dr.Any.mem_from]; simp only; omega)
          have qq5 := Dr.Any.cls_cell (M := Dr.Any.from_ V0.heap.size) (hPd.cell (i := 5) rfl) (by rw [Dr.Any.mem_from]; simp only; omega)
          have qq6 := Dr.Any.cls_cell (M := Dr.Any.from_ V0.heap.size) (hPd.cell (i := 6) rfl) (by rw [Dr.Any.mem_from]; simp only; omega)
          have qq7 := Dr.Any.cls_cell (M := Dr.Any.from_ V0.heap.size) (hPd.cell (i := 7) rfl) (by rw [Dr.Any.mem_from]; simp only; omega)
          have hUd := hUk.out _ hbd
          have vv0 := Dr.Any.cls_cell (M := Dr.Any.from_ V0.heap.size) (hUd.cell (i := 0) rfl) (by rw [Dr.Any.mem_from]; simp only; omega)
          have vv1 := Dr.Any.cls_cell (M := Dr.Any.from_ V0.heap.size) (hUd.cell (i := 1) rfl) (by rw [Dr.Any.mem_from]; simp only; omega)
          have vv2 := Dr.Any.cls_cell (M := Dr.Any.from_ V0.heap.size) (hUd.cell (i := 2) rfl) (by rw [Dr.Any.mem_from]; simp only; omega)
          have vv3 := Dr.Any.cls_cell (M := Dr.Any.from_ V0.heap.size) (hUd.cell (i := 3) rfl) (by rw [Dr.Any.mem_from]; simp only; omega)
          have vv4 := Dr.Any.cls_cell (M := Dr.Any.from_ V0.heap.size) (hUd.cell (i := 4) rfl) (by rw [Dr.Any.mem_from]; simp only; omega)
          have vv5 := Dr.Any.cls_cell (M := Dr.Any.from_ V0.heap.size) (hUd.cell (i := 5) rfl) (by rw [Dr.Any.mem_from]; simp only; omega)
          clear hUd
          refine Dr.Any.plan_q (l := [_, _]) rfl (fun K hK => ?_)
          iterate 2 (go_big_quiet_step (fail))
          refine wpQuiet_nil (hK _ ?_); clear hK K
          clear qq0 qq1 qq2 qq3 qq4 qq5 qq6 qq7 vv0 vv1 vv2 vv3 vv4 vv5 hPd
          refine Dr.Any.plan_e2 ?_ ?_
          · skip
            refine Dr.Any.plan_e rfl (by rfl) (fun K hK => ?_)
            go_wp2_with fail
            refine (CA.out _).mono ?_; rintro r V1 ⟨rfl, hbn⟩
            refine hK _ _ (.of hbn) ?_; clear hK K
            replace hLd := hLd.ext hbn
            replace hbv := ext_trans hbv hbn
            have hsV1 := hbn.size
            refine Dr.Any.plan_e2 ?_ ?_
            · skip
              refine Dr.Any.plan_e rfl (by rfl) (fun K hK => ?_)
              go_wp2_with fail
              refine (CD.out _ hLd).mono ?_; rintro r V2 ⟨v6, rfl, ⟨A3, n3, c3, B3, m3, d3, D3, q3, e3, rfl, L6⟩, hbn⟩
              unfold ledV
              refine hK _ _ (.of hbn) ?_; clear hK K
              clear hLd
              replace hbv := ext_trans hbv hbn
              have hsV2 := hbn.size
              refine Dr.Any.plan_q (l := [_, _, _]) rfl (fun K hK => ?_)
              iterate 3 (go_big_quiet_step (fail))
              refine wpQuiet_nil (hK _ ?_); clear hK K
              refine Dr.Any.plan_e rfl (by rfl) (fun K hK => ?_)
              go_wp2_with fail
              refine hK _ _ (.of (ext_alloc _ _)) ?_; clear hK K
              have hP5 := Blk.new V2 81 [.slice none 0 0, .slice none 0 0, .int .i64 0, .int .i64 0, .int .i64 0, .int .i64 0, .int .i64 0, .slice none 0 0]
              have hAl := ext_alloc V2 (.cells #[.slice none 0 0, .slice none 0 0, .int .i64 0, .int .i64 0, .int .i64 0, .int .i64 0, .int .i64 0, .slice none 0 0] 81)
              replace hbv := ext_trans hbv hAl
              have hsV3 := hAl.size
              have hP5g : V0.heap.size ≤ V2.heap.size := by omega
              change Blk (V2.alloc (.cells #[.slice none 0 0, .slice none 0 0, .int .i64 0, .int .i64 0, .int .i64 0, .int .i64 0, .int .i64 0, .slice none 0 0] 81)) _ _ _ at hP5
              have L7 := L6.ext hAl
              clear hAl
              generalize hP5e : V2.heap.size = P5 at *
              generalize V2.alloc (.cells #[.slice none 0 0, .slice none 0 0, .int .i64 0, .int .i64 0, .int .i64 0, .int .i64 0, .int .i64 0, .slice none 0 0] 81) = V3 at *
              have hP5l := hP5.lt
              have y0 : V3.cell? ⟨P5, 0, none⟩ = _ := hP5.cell (i := 0) rfl
              have y1 : V3.cell? ⟨P5, 1, none⟩ = _ := hP5.cell (i := 1) rfl
              have y2 : V3.cell? ⟨P5, 2, none⟩ = _ := hP5.cell (i := 2) rfl
              have y3 : V3.cell? ⟨P5, 3, none⟩ = _ := hP5.cell (i := 3) rfl
              have y4 : V3.cell? ⟨P5, 4, none⟩ = _ := hP5.cell (i := 4) rfl
              have y5 : V3.cell? ⟨P5, 5, none⟩ = _ := hP5.cell (i := 5) rfl
              have y6 : V3.cell? ⟨P5, 6, none⟩ = _ := hP5.cell (i := 6) rfl
              have y7 : V3.cell? ⟨P5, 7, none⟩ = _ := hP5.cell (i := 7) rfl
              have f0 := hP5.free 0
              have f1 := hP5.free 1
              have f2 := hP5.free 2
              have f3 := hP5.free 3
              have f4 := hP5.free 4
              have f5 := hP5.free 5
              have f6 := hP5.free 6
              have f7 := hP5.free 7
              refine Dr.Any.plan_e rfl (by rfl) (fun K hK => ?_)
              go_wp2_with fail
              generalize hWf : World.setCell _ _ (Value.slice D3 q3 e3) = Wf
              have hPf := hP5.put_eq [.slice A3 n3 c3, .slice B3 m3 d3, .int .i64 nx.office, .int .i64 nx.bank, .int .i64 nx.begun, .int .i64 nx.inn, .int .i64 nx.out, .slice D3 q3 e3] hWf rfl
              have hbf : Dr.Bel [P5] V3 Wf := bel_put_eq [.slice A3 n3 c3, .slice B3 m3 d3, .int .i64 nx.office, .int .i64 nx.bank, .int .i64 nx.begun, .int .i64 nx.inn, .int .i64 nx.out, .slice D3 q3 e3] hWf
              clear hWf y0 y1 y2 y3 y4 y5 y6 y7 f0 f1 f2 f3 f4 f5 f6 f7
              refine hK _ _ (bel_any hbf (by rw [Dr.Any.mem_from]; omega)) ?_; clear hK K
              refine Dr.Any.plan_q (l := [_]) rfl (fun K hK => ?_)
              iterate 1 (go_big_quiet_step (fail))
              refine wpQuiet_nil (hK _ ?_); clear hK K
              refine Dr.Any.plan_end rfl ?_
              go_wp2
              go_meet
              case rel => exact ⟨P5, A3, n3, c3, B3, m3, d3, D3, q3, e3, rfl, rfl, by omega, hPf, (L7.bel1 hbf (fun k hk => by have := (L6.fa k hk).2; omega) (fun k hk => by have := (L6.fb k hk).2; omega) (fun k hk => by have := (L6.fd k hk).2; omega)).m, fun g hg => ⟨fun _ h => by have := (L6.fa _ h).1; omega, fun _ h => by have := (L6.fb _ h).1; omega, fun _ h => by have := (L6.fd _ h).1; omega⟩, ext_trans hbd (hbv.trans (hbf.old (by omega) (by simp; omega)))⟩
            · skip
              refine Dr.Any.plan_e rfl (by rfl) (fun K hK => ?_)
              go_wp2_with fail
              refine hK _ _ (.of (ext_alloc _ _)) ?_; clear hK K
              have hP5 := Blk.new V1 81 [.slice none 0 0, .slice none 0 0, .int .i64 0, .int .i64 0, .int .i64 0, .int .i64 0, .int .i64 0, .slice none 0 0]
              have hAl := ext_alloc V1 (.cells #[.slice none 0 0, .slice none 0 0, .int .i64 0, .int .i64 0, .int .i64 0, .int .i64 0, .int .i64 0, .slice none 0 0] 81)
              replace hbv := ext_trans hbv hAl
              have hsV2 := hAl.size
              have hP5g : V0.heap.size ≤ V1.heap.size := by omega
              change Blk (V1.alloc (.cells #[.slice none 0 0, .slice none 0 0, .int .i64 0, .int .i64 0, .int .i64 0, .int .i64 0, .int .i64 0, .slice none 0 0] 81)) _ _ _ at hP5
              replace hLd := hLd.ext hAl
              clear hAl
              generalize hP5e : V1.heap.size = P5 at *
              generalize V1.alloc (.cells #[.slice none 0 0, .slice none 0 0, .int .i64 0, .int .i64 0, .int .i64 0, .int .i64 0, .int .i64 0, .slice none 0 0] 81) = V2 at *
              have hP5l := hP5.lt
              refine Dr.Any.plan_e rfl (by rfl) (fun K hK => ?_)
              go_wp2_with fail
              refine (CD.out _ hLd).mono ?_; rintro r V3 ⟨v6, rfl, ⟨A3, n3, c3, B3, m3, d3, D3, q3, e3, rfl, L6⟩, hbn⟩
              unfold ledV
              refine hK _ _ (.of hbn) ?_; clear hK K
              clear hLd
              replace hbv := ext_trans hbv hbn
              have hsV3 := hbn.size
              replace hP5 := hP5.ext hbn
              refine Dr.Any.plan_q (l := [_, _, _]) rfl (fun K hK => ?_)
              iterate 3 (go_big_quiet_step (fail))
              refine wpQuiet_nil (hK _ ?_); clear hK K
              have y0 : V3.cell? ⟨P5, 0, none⟩ = _ := hP5.cell (i := 0) rfl
              have y1 : V3.cell? ⟨P5, 1, none⟩ = _ := hP5.cell (i := 1) rfl
              have y2 : V3.cell? ⟨P5, 2, none⟩ = _ := hP5.cell (i := 2) rfl
              have y3 : V3.cell? ⟨P5, 3, none⟩ = _ := hP5.cell (i := 3) rfl
              have y4 : V3.cell? ⟨P5, 4, none⟩ = _ := hP5.cell (i := 4) rfl
              have y5 : V3.cell? ⟨P5, 5, none⟩ = _ := hP5.cell (i := 5) rfl
              have y6 : V3.cell? ⟨P5, 6, none⟩ = _ := hP5.cell (i := 6) rfl
              have y7 : V3.cell? ⟨P5, 7, none⟩ = _ := hP5.cell (i := 7) rfl
              have f0 := hP5.free 0
              have f1 := hP5.free 1
              have f2 := hP5.free 2
              have f3 := hP5.free 3
              have f4 := hP5.free 4
              have f5 := hP5.free 5
              have f6 := hP5.free 6
              have f7 := hP5.free 7
              refine Dr.Any.plan_e rfl (by rfl) (fun K hK => ?_)
              go_wp2_with fail
              generalize hWf : World.setCell _ _ (Value.slice D3 q3 e3) = Wf
              have hPf := hP5.put_eq [.slice A3 n3 c3, .slice B3 m3 d3, .int .i64 nx.office, .int .i64 nx.bank, .int .i64 nx.begun, .int .i64 nx.inn, .int .i64 nx.out, .slice D3 q3 e3] hWf rfl
              have hbf : Dr.Bel [P5] V3 Wf := bel_put_eq [.slice A3 n3 c3, .slice B3 m3 d3, .int .i64 nx.office, .int .i64 nx.bank, .int .i64 nx.begun, .int .i64 nx.inn, .int .i64 nx.out, .slice D3 q3 e3] hWf
              clear hWf y0 y1 y2 y3 y4 y5 y6 y7 f0 f1 f2 f3 f4 f5 f6 f7
              refine hK _ _ (bel_any hbf (by rw [Dr.Any.mem_from]; omega)) ?_; clear hK K
              refine Dr.Any.plan_q (l := [_]) rfl (fun K hK => ?_)
              iterate 1 (go_big_quiet_step (fail))
              refine wpQuiet_nil (hK _ ?_); clear hK K
              refine Dr.Any.plan_end rfl ?_
              go_wp2
              go_meet
              case rel => exact ⟨P5, A3, n3, c3, B3, m3, d3, D3, q3, e3, rfl, rfl, by omega, hPf, (L6.bel1 hbf (fun k hk => by have := (L6.fa k hk).1; omega) (fun k hk => by have := (L6.fb k hk).1; omega) (fun k hk => by have := (L6.fd k hk).1; omega)).m, fun g hg => ⟨fun _ h => by have := (L6.fa _ h).1; omega, fun _ h => by have := (L6.fb _ h).1; omega, fun _ h => by have := (L6.fd _ h).1; omega⟩, ext_trans hbd (hbv.trans (hbf.old (by omega) (by simp; omega)))⟩
          · skip
            refine Dr.Any.plan_e rfl (by rfl) (fun K hK => ?_)
            go_wp2_with fail
            refine hK _ _ (.of (ext_alloc _ _)) ?_; clear hK K
            have hP5 := Blk.new V0 81 [.slice none 0 0, .slice none 0 0, .int .i64 0, .int .i64 0, .int .i64 0, .int .i64 0, .int .i64 0, .slice none 0 0]
            have hAl := ext_alloc V0 (.cells #[.slice none 0 0, .slice none 0 0, .int .i64 0, .int .i64 0, .int .i64 0, .int .i64 0, .int .i64 0, .slice none 0 0] 81)
            replace hbv := ext_trans hbv hAl
            have hsV1 := hAl.size
            have hP5g : V0.heap.size ≤ V0.heap.size := by omega
            change Blk (V0.alloc (.cells #[.slice none 0 0, .slice none 0 0, .int .i64 0, .int .i64 0, .int .i64 0, .int .i64 0, .int .i64 0, .slice none 0 0] 81)) _ _ _ at hP5
            replace hLd := hLd.ext hAl
            clear hAl
            obtain ⟨P5, hP5e⟩ : ∃ P5, V0.heap.size = P5 := ⟨_, rfl⟩
            rw [hP5e] at hP5
            generalize V0.alloc (.cells #[.slice none 0 0, .slice none 0 0, .int .i64 0, .int .i64 0, .int .i64 0, .int .i64 0, .int .i64 0, .slice none 0 0] 81) = V1 at *
            rw [hP5e]
            have hP5l := hP5.lt
            refine Dr.Any.plan_e rfl (by rfl) (fun K hK => ?_)
            go_wp2_with fail
            refine (CA.out _).mono ?_; rintro r V2 ⟨rfl, hbn⟩
            refine hK _ _ (.of hbn) ?_; clear hK K
            replace hLd := hLd.ext hbn
            replace hbv := ext_trans hbv hbn
            have hsV2 := hbn.size
            replace hP5 := hP5.ext hbn
            refine Dr.Any.plan_e rfl (by rfl) (fun K hK => ?_)
            go_wp2_with fail
            refine (CD.out _ hLd).mono ?_; rintro r V3 ⟨v6, rfl, ⟨A3, n3, c3, B3, m3, d3, D3, q3, e3, rfl, L6⟩, hbn⟩
            unfold ledV
            refine hK _ _ (.of hbn) ?_; clear hK K
            clear hLd
            replace hbv := ext_trans hbv hbn
            have hsV3 := hbn.size
            replace hP5 := hP5.ext hbn
            refine Dr.Any.plan_q (l := [_, _, _]) rfl (fun K hK => ?_)
            iterate 3 (go_big_quiet_step (fail))
            refine wpQuiet_nil (hK _ ?_); clear hK K
            have y0 : V3.cell? ⟨P5, 0, none⟩ = _ := hP5.cell (i := 0) rfl
            have y1 : V3.cell? ⟨P5, 1, none⟩ = _ := hP5.cell (i := 1) rfl
            have y2 : V3.cell? ⟨P5, 2, none⟩ = _ := hP5.cell (i := 2) rfl
            have y3 : V3.cell? ⟨P5, 3, none⟩ = _ := hP5.cell (i := 3) rfl
            have y4 : V3.cell? ⟨P5, 4, none⟩ = _ := hP5.cell (i := 4) rfl
            have y5 : V3.cell? ⟨P5, 5, none⟩ = _ := hP5.cell (i := 5) rfl
            have y6 : V3.cell? ⟨P5, 6, none⟩ = _ := hP5.cell (i := 6) rfl
            have y7 : V3.cell? ⟨P5, 7, none⟩ = _ := hP5.cell (i := 7) rfl
            have f0 := hP5.free 0
            have f1 := hP5.free 1
            have f2 := hP5.free 2
            have f3 := hP5.free 3
            have f4 := hP5.free 4
            have f5 := hP5.free 5
            have f6 := hP5.free 6
            have f7 := hP5.free 7
            refine Dr.Any.plan_e rfl (by rfl) (fun K hK => ?_)
            go_wp2_with fail
            generalize hWf : World.setCell _ _ (Value.slice D3 q3 e3) = Wf
            have hPf := hP5.put_eq [.slice A3 n3 c3, .slice B3 m3 d3, .int .i64 nx.office, .int .i64 nx.bank, .int .i64 nx.begun, .int .i64 nx.inn, .int .i64 nx.out, .slice D3 q3 e3] hWf rfl
            have hbf : Dr.Bel [P5] V3 Wf := bel_put_eq [.slice A3 n3 c3, .slice B3 m3 d3, .int .i64 nx.office, .int .i64 nx.bank, .int .i64 nx.begun, .int .i64 nx.inn, .int .i64 nx.out, .slice D3 q3 e3] hWf
            clear hWf y0 y1 y2 y3 y4 y5 y6 y7 f0 f1 f2 f3 f4 f5 f6 f7
            refine hK _ _ (bel_any hbf (by rw [Dr.Any.mem_from]; omega)) ?_; clear hK K
            refine Dr.Any.plan_q (l := [_]) rfl (fun K hK => ?_)
            iterate 1 (go_big_quiet_step (fail))
            refine wpQuiet_nil (hK _ ?_); clear hK K
            refine Dr.Any.plan_end rfl ?_
            go_wp2
            go_meet
            case rel => exact ⟨P5, A3, n3, c3, B3, m3, d3, D3, q3, e3, rfl, rfl, by omega, hPf, (L6.bel1 hbf (fun k hk => by have := (L6.fa k hk).1; omega) (fun k hk => by have := (L6.fb k hk).1; omega) (fun k hk => by have := (L6.fd k hk).1; omega)).m, fun g hg => ⟨fun _ h => by have := (L6.fa _ h).1; omega, fun _ h => by have := (L6.fb _ h).1; omega, fun _ h => by have := (L6.fd _ h).1; omega⟩, ext_trans hbd (hbv.trans (hbf.old (by omega) (by simp; omega)))⟩
        case rest =>
          obtain ⟨N, A3, n3, c3, B3, m3, d3, D3, q3, e3, rfl, rfl, hN, hY, hL3, ho3, hb3⟩ := hcut
          generalize wc = W7 at *
          have hI7 := hI.ext hb3
          have hbw7 := ext_trans hbw hb3
          have hU7 := hU.ext hb3
          have hg6 : ∀ g, tk.ownBlock = some g ∨ tc.ownBlock = some g → g < W6.heap.size := fun g h => by
            rcases h with h | h
            · exact (hI.o1.lt h).2
            · exact (hI.o2.lt h).2
          clear CA CD hP hL hof hog hU hI hbw
          by_cases hcode : code = 0
          rotate_left
          · have hce : (code == 0) = false := by simpa using hcode
            have Hst1 := Lib.hid (show seaK bl acts2 (j + 1) = s by rw [Hst.out, if_neg hcode])
            clear Hst Hbs Hti Hd Hinv Hsucc Hget Hml Hk HZ Hbd hgU
            go_wp2
            go_roundw
            case rel => exact ⟨j + 1, _, _, rfl, rfl, by go_num, by omega, by rw [Hst1.out]; exact hI7⟩
            case measure => simp [intOf]; omega
          subst hcode
          have hnxo : nx.Ok := by
            rcases Hd.out with ⟨-, h, -⟩ | ⟨h, -⟩
            · exact h
            · exact absurd rfl h
          have Hst0 := Lib.hid (show seaK bl acts2 (j + 1) = ⟨nx, if a0 = 4 then s.tk ++ [0] else if a0 = 5 then s.tk.set a2.toNat (s.tk.getD a2.toNat 0 + a4) else s.tk⟩ by rw [Hst.out]; rfl)
          have hbs := Hbs.out rfl
          have Hbs0 := Lib.hid hbs
          have Hti0 := Lib.hid (Hti.out rfl)
          clear Hst Hbs Hti Hd hbs
          have hJ : SeaJ W4 P U N [.slice A1 n1 c1, .slice B1 m1 d1, .int .i64 s.l.office, .int .i64 s.l.bank, .int .i64 s.l.begun, .int .i64 s.l.inn, .int .i64 s.l.out, .slice D1 q1 e1] [.int .u8 a0, .int .i64 a1, .int .i64 a2, .int .i64 a3, .int .i64 a4, .int .i64 b5] [.slice A3 n3 c3, .slice B3 m3 d3, .int .i64 nx.office, .int .i64 nx.bank, .int .i64 nx.begun, .int .i64 nx.inn, .int .i64 nx.out, .slice D3 q3 e3] nx A3 n3 B3 m3 D3 q3 s.tk (s.l.bags.map Bag.broken) tk tc W7 :=
            ⟨hI7.o1, hI7.o2, Hp.out.ext hb3, hU7, hY, hL3, hI7.f0, fun g hg => ⟨by have := hgU g hg; omega, by have := hg6 g hg; omega, ho3 g (hg6 g hg)⟩, hI7.bel, hPl⟩
          have hoP := ho3 P hPr
          clear Hp hI7 hU7 hY hL3 ho3 hg6 hgU hb3 hN
          have Hbkl := Lib.hid (show (s.l.bags.map Bag.broken).length = s.tk.length by rw [List.length_map, Hnk.out])
          generalize s.l.bags.map Bag.broken = bks at *
          have u0 : W7.cell? ⟨U, 0, none⟩ = _ := hJ.bu.cell (i := 0) rfl
          go_upto_if 74 with fail
          go_cut [11, 12] (fun y z W => ∃ tk' tc', tk' = y ∧ tc' = z ∧ SeaJ W4 P U N [.slice A1 n1 c1, .slice B1 m1 d1, .int .i64 s.l.office, .int .i64 s.l.bank, .int .i64 s.l.begun, .int .i64 s.l.inn, .int .i64 s.l.out, .slice D1 q1 e1] [.int .u8 a0, .int .i64 a1, .int .i64 a2, .int .i64 a3, .int .i64 a4, .int .i64 b5] [.slice A3 n3 c3, .slice B3 m3 d3, .int .i64 nx.office, .int .i64 nx.bank, .int .i64 nx.begun, .int .i64 nx.inn, .int .i64 nx.out, .slice D3 q3 e3] nx A3 n3 B3 m3 D3 q3 (if a0 = 4 then s.tk ++ [0] else s.tk) (if a0 = 4 then bks ++ [false] else bks) tk' tc' W)
          case first =>
            clear Hst0 Hbs0 Hti0 Hinv Hsucc Hget Hml Hk HZ Hbd u0 hoP hnxo
            by_cases h4 : a0 = 4
            · subst h4
              have hw0 := Blk.new W7 3 [.int .i64 0]
              have hJ1 := hJ.ext (ext_alloc W7 (.cells #[.int .i64 0] 3))
              have hs7 := hJ.bel.size
              go_wp2_with (at_builtin; first
                | (refine app1 encI 27 3 1 8 et27 (by decide) (by decide) encI_len encI_one rfl _ _ rfl W4.heap.size _ s.tk rfl hJ1.o1 W7.heap.size rfl 0 (encI_cell (hw0.cell rfl)) (by omega) (by simp; omega) ?_; intro g1 cp1 w1 ho1 hb1 hg1 hn1; have hJ2 := hJ1.step1 hg1 ho1 (fun g e => by obtain rfl : g1 = g := (by simpa [Value.ownBlock] using e); rcases hn1 with h | h; exact .inl h; exact .inr (by omega)); have hw1 := Blk.new w1 4 [.bool false]; have hJ3 := hJ2.ext (ext_alloc w1 (.cells #[.bool false] 4)); have hs8 := hJ2.bel.size)
                | (refine app1 encB 101 4 1 1 et101 (by decide) (by decide) encB_len encB_one rfl _ _ rfl W4.heap.size _ bks rfl hJ3.o2 w1.heap.size rfl false (fun j u h => hw1.cell h) (by omega) (by simp; omega) ?_; intro g2 cp2 w2 ho2 hb2 hg2 hn2))
              have hJ4 := hJ3.step2 hg2 ho2 (fun g e => by obtain rfl : g2 = g := (by simpa [Value.ownBlock] using e); rcases hn2 with h | h; exact .inl h; exact .inr (by omega))
              go_meet
              case rel =>
                simp only [if_true]
                exact ⟨_, _, rfl, rfl, hJ4⟩
            · have e4 : (a0 == 4) = false := by simpa using h4
              go_wp2
              go_meet
              case rel => exact ⟨_, _, rfl, rfl, by rw [if_neg h4, if_neg h4]; exact hJ⟩
          case rest =>
            obtain ⟨tk2, tc2, rfl, rfl, hJ2⟩ := hcut
            generalize wc = W8 at *
            clear hJ
            have u0 : W8.cell? ⟨U, 0, none⟩ = _ := hJ2.bu.cell (i := 0) rfl
            go_upto_if 83 with fail
            clear u0
            go_cut [86] (fun _ W => SeaJ W4 P U N [.slice A1 n1 c1, .slice B1 m1 d1, .int .i64 s.l.office, .int .i64 s.l.bank, .int .i64 s.l.begun, .int .i64 s.l.inn, .int .i64 s.l.out, .slice D1 q1 e1] [.int .u8 a0, .int .i64 a1, .int .i64 a2, .int .i64 a3, .int .i64 a4, .int .i64 b5] [.slice A3 n3 c3, .slice B3 m3 d3, .int .i64 nx.office, .int .i64 nx.bank, .int .i64 nx.begun, .int .i64 nx.inn, .int .i64 nx.out, .slice D3 q3 e3] nx A3 n3 B3 m3 D3 q3 (if a0 = 4 then s.tk ++ [0] else if a0 = 5 then s.tk.set a2.toNat (s.tk.getD a2.toNat 0 + a4) else s.tk) (if a0 = 4 then bks ++ [false] else if a0 = 5 then bks.set a2.toNat true else bks) tk2 tc2 W)
            case first =>
              clear Hst0 Hbs0 Hinv Hsucc Hget Hml Hk HZ hoP hnxo
              by_cases h5 : a0 = 5
              · subst h5
                have hti := Hti0.out rfl
                obtain ⟨bi, rfl⟩ : ∃ bi : Nat, a2 = bi := ⟨a2.toNat, by omega⟩
                have e54 : ¬ (5 : Int) = 4 := by decide
                simp only [e54, if_false, if_true, Int.toNat_natCast] at hJ2 ⊢
                have hbi : bi < s.tk.length := by rw [Hnk.out]; have := hti.2.1; omega
                have hbi2 : bi < bks.length := by rw [Hbkl.out]; exact hbi
                have hbi3 : ¬ (s.tk.length : Int) ≤ bi := by omega
                have hbi5 : ¬ s.tk.length ≤ bi := by omega
                have ha4 := hti.2.2
                have hv := tk_get Hbd.out bi
                have hgd : s.tk.getD bi 0 = s.tk[bi] := by simp [hbi]
                rw [hgd] at hv
                obtain ⟨g1, cp1, rfl⟩ := hJ2.o1.rowOf (by omega)
                obtain ⟨g2, cp2, rfl⟩ := hJ2.o2.rowOf (by omega)
                clear Hti0 hti Hbd
                have Hgd := Lib.hid hgd
                clear hgd
                have u2 : W8.cell? ⟨U, 2, none⟩ = _ := hJ2.bu.cell (i := 2) rfl
                go_upto_region 21 with fail
                clear u2
                refine Dr.wp_region_plan 9 [] (.q [0, 1, 2, 3, 4, 5, 6, 7, 8] .done) (by kernel_rfl) (by kernel_rfl) ?_
                have hJ3 := hJ2.ext (ext_drew W8)
                clear hJ2
                generalize World.drew _ = V at *
                obtain ⟨A7, q7, hv7, -, -, hC7⟩ := hJ3.o1.cells encI_len
                obtain ⟨rfl, rfl⟩ : A7 = some ⟨g1, 0, none⟩ ∧ cp1 = q7 := by have h := hv7; rw [Value.slice.injEq] at h; exact ⟨h.1.symm, h.2.2⟩
                clear hv7
                obtain ⟨b7, o7, e7, -, t0⟩ := hC7.at1 hbi rfl
                obtain ⟨rfl, rfl⟩ : g1 = b7 ∧ 0 = o7 := by simpa [eq_comm] using e7
                rw [Nat.zero_add] at t0
                clear e7 hC7
                generalize hvv : s.tk[bi] = vv at *
                have Hvv := Lib.hid hvv
                clear hvv
                have r0 := Dr.cell0 t0
                have u2 := Dr.cell0 (hJ3.bu.cell (i := 2) rfl)
                have u4 := Dr.cell0 (hJ3.bu.cell (i := 4) rfl)
                refine Dr.plan_q (l := [_, _, _, _, _, _, _, _, _]) rfl (fun K hK => ?_)
                iterate 9 (go_big_quiet_step (fail))
                refine wpQuiet_nil (hK _ ?_); clear hK K
                clear r0 u2 u4
                refine Dr.plan_done (tl := [_]) rfl ?_
                have fz := hJ3.o1.frozen bi
                have hJ4 := hJ3.step1 (grownBy_setCell V ⟨g1, bi, none⟩ (.int .i64 (vv + a4))) (OwnL.set1 hJ3.o1 hbi (vv + a4)) (fun g e => .inl e)
                go_upto_region 22 with fail
                clear t0 fz hJ3
                generalize V.setCell ⟨g1, bi, none⟩ (.int .i64 (vv + a4)) = V2 at *
                have u2 : V2.cell? ⟨U, 2, none⟩ = _ := hJ4.bu.cell (i := 2) rfl
                obtain ⟨A8, q8, hv8, -, -, hC8⟩ := hJ4.o2.cells encB_len
                obtain ⟨rfl, rfl⟩ : A8 = some ⟨g2, 0, none⟩ ∧ cp2 = q8 := by have h := hv8; rw [Value.slice.injEq] at h; exact ⟨h.1.symm, h.2.2⟩
                clear hv8
                obtain ⟨b8, o8, e8, -, t0⟩ := hC8.at1 hbi2 rfl
                obtain ⟨rfl, rfl⟩ : g2 = b8 ∧ 0 = o8 := by simpa [eq_comm] using e8
                rw [Nat.zero_add] at t0
                clear e8 hC8
                have fz := hJ4.o2.frozen bi
                have hJ5 := hJ4.step2 (grownBy_setCell V2 ⟨g2, bi, none⟩ (.bool true)) (OwnL.setB hJ4.o2 hbi2 true) (fun g e => .inl e)
                go_wp2
                go_meet
                case rel => simp only [e54, if_false, if_true, Int.toNat_natCast]; rw [Hgd.out]; exact hJ5
              · have e5 : (a0 == 5) = false := by simpa using h5
                go_wp2
                go_meet
                case rel => rw [if_neg h5, if_neg h5]; exact hJ2
            case rest =>
              have hJ := hcut
              clear hcut hJ2
              generalize wc = W9 at *
              have hbs : nx.bags.map Bag.broken = if a0 = 4 then bks ++ [false] else if a0 = 5 then bks.set a2.toNat true else bks := Hbs0.out
              have hss : seaK bl acts2 (j + 1) = ⟨nx, if a0 = 4 then s.tk ++ [0] else if a0 = 5 then s.tk.set a2.toNat (s.tk.getD a2.toNat 0 + a4) else s.tk⟩ := Hst0.out
              generalize (if a0 = 4 then s.tk ++ [0] else if a0 = 5 then s.tk.set a2.toNat (s.tk.getD a2.toNat 0 + a4) else s.tk) = tl at *
              generalize (if a0 = 4 then bks ++ [false] else if a0 = 5 then bks.set a2.toNat true else bks) = bl2 at *
              have Hbs2 := Lib.hid hbs
              have Hss2 := Lib.hid hss
              clear hbs hss Hst0 Hbs0 Hti0 Hinv Hsucc Hget Hml Hk HZ Hbd hnxo
              have hPv := hJ.bp
              have hYv := hJ.bn
              have y0 : W9.cell? ⟨N, 0, none⟩ = _ := hYv.cell (i := 0) rfl
              have y1 : W9.cell? ⟨N, 1, none⟩ = _ := hYv.cell (i := 1) rfl
              have y2 : W9.cell? ⟨N, 2, none⟩ = _ := hYv.cell (i := 2) rfl
              have y3 : W9.cell? ⟨N, 3, none⟩ = _ := hYv.cell (i := 3) rfl
              have y4 : W9.cell? ⟨N, 4, none⟩ = _ := hYv.cell (i := 4) rfl
              have y5 : W9.cell? ⟨N, 5, none⟩ = _ := hYv.cell (i := 5) rfl
              have y6 : W9.cell? ⟨N, 6, none⟩ = _ := hYv.cell (i := 6) rfl
              have y7 : W9.cell? ⟨N, 7, none⟩ = _ := hYv.cell (i := 7) rfl
              have p0 : W9.cell? ⟨P, 0, none⟩ = _ := hPv.cell (i := 0) rfl
              have p1 : W9.cell? ⟨P, 1, none⟩ = _ := hPv.cell (i := 1) rfl
              have p2 : W9.cell? ⟨P, 2, none⟩ = _ := hPv.cell (i := 2) rfl
              have p3 : W9.cell? ⟨P, 3, none⟩ = _ := hPv.cell (i := 3) rfl
              have p4 : W9.cell? ⟨P, 4, none⟩ = _ := hPv.cell (i := 4) rfl
              have p5 : W9.cell? ⟨P, 5, none⟩ = _ := hPv.cell (i := 5) rfl
              have p6 : W9.cell? ⟨P, 6, none⟩ = _ := hPv.cell (i := 6) rfl
              have p7 : W9.cell? ⟨P, 7, none⟩ = _ := hPv.cell (i := 7) rfl
              have f0 := hPv.free 0
              have f1 := hPv.free 1
              have f2 := hPv.free 2
              have f3 := hPv.free 3
              have f4 := hPv.free 4
              have f5 := hPv.free 5
              have f6 := hPv.free 6
              have f7 := hPv.free 7
              go_wp2
              generalize hWf : World.setCell _ _ (Value.slice D3 q3 e3) = Wf
              have hPf := hPv.put_eq [.slice A3 n3 c3, .slice B3 m3 d3, .int .i64 nx.office, .int .i64 nx.bank, .int .i64 nx.begun, .int .i64 nx.inn, .int .i64 nx.out, .slice D3 q3 e3] hWf rfl
              have hbf : Dr.Bel [P] W9 Wf := bel_put_eq [.slice A3 n3 c3, .slice B3 m3 d3, .int .i64 nx.office, .int .i64 nx.bank, .int .i64 nx.begun, .int .i64 nx.inn, .int .i64 nx.out, .slice D3 q3 e3] hWf
              clear hWf p0 p1 p2 p3 p4 p5 p6 p7 f0 f1 f2 f3 f4 f5 f6 f7 y0 y1 y2 y3 y4 y5 y6 y7
              have hIf := hJ.done hoP hbf hPf Hbs2.out
              go_roundw
              case rel => exact ⟨j + 1, _, _, rfl, rfl, by go_num, by omega, by rw [Hss2.out]; exact hIf⟩
              case measure => simp [intOf]; omega
    · obtain rfl : j = k := by omega
      have HS := Lib.hid (Hinv.out j (by rw [Hml.out]; omega))
      clear hlt Hinv Hsucc Hget Hml Hk HZ
      generalize seaK bl acts2 j = s at *
      have hHS := HS.out
      obtain ⟨A1, n1, c1, B1, m1, d1, D1, q1, e1, hP, hL, hof, -⟩ := hI.box
      obtain ⟨TA, tcap, rfl, -, -, hT⟩ := hI.o1.cells encI_len
      obtain ⟨CA, ccap, rfl, -, -, hC⟩ := hI.o2.cells encB_len
      have hTb := hI.o1.block_ge rfl
      have hCb := hI.o2.block_ge rfl
      have Htl := Lib.hid (hHS.nk.trans hL.hm)
      have Hcl := Lib.hid (show (s.l.bags.map Bag.broken).length = m1 by rw [List.length_map]; exact hL.hm)
      have hm1 : m1 ≤ 100 := by have := hHS.ok.m2; rw [hL.hm] at this; exact this
      obtain rfl : f = n1 := (hL.hn.symm.trans hHS.wn).symm
      have hq1 : q1 ≤ 1000 := hL.q9
      have Hm := Lib.hid hL.hm
      have Hq := Lib.hid hL.hq
      have hPl2 := hP.lt
      rw [Htl.out, Hcl.out]
      have p1 : wr.cell? ⟨P, 1, none⟩ = _ := hP.cell (i := 1) rfl
      have hmk := fun w => mk101 m1 (by omega) w
      go_upto_region 28 with fail
      clear p1 hmk
      have hK0 := Blk.new wr 4 (boolsL m1 fun _ => false)
      have hal := ext_alloc wr (.cells (boolsL m1 fun _ => false).toArray 4)
      have hoK := hL.off (Nat.le_refl _)
      have hP6 := hP.ext hal
      have hL6 := hL.ext hal
      have hT6 := hT.ext hal
      have hC6 := hC.ext hal
      have hbw6 := ext_trans hbw hal
      have hKw := hbw.size
      clear hP hL hT hC hbw hal hI hof
      change Blk (wr.alloc (.cells (boolsL m1 fun _ => false).toArray 4)) _ _ _ at hK0
      generalize wr.heap.size = K at *
      generalize wr.alloc (.cells (boolsL m1 fun _ => false).toArray 4) = W6 at *
      go_wp2
      go_loopw [19, 20] (fun x _ wr => ∃ i : Nat, x = .int .i64 i ∧ i ≤ q1 ∧ Blk wr K 4 (boolsL m1 (brkF s.l i)) ∧ Dr.Bel [K] W6 wr) (fun x _ _ => q1 - (intOf x).toNat)
      case atStart => exact ⟨0, rfl, by omega, by rw [boolsL_congr (g := fun _ => false) (fun i _ => brkF_zero s.l i)]; exact hK0, Dr.Bel.refl _ _⟩
      case round =>
        clear hK0
        obtain ⟨i, rfl, hi, hK, hb⟩ := hrel
        have hPr := hb.blk hP6 (by simp; omega)
        have hLr := hL6.bel1 hoK hb
        have p7 : wr.cell? ⟨P, 7, none⟩ = _ := hPr.cell (i := 7) rfl
        by_cases hlt : i < q1
        · have hlt' : (i : Int) < (q1 : Int) := by omega
          have hil : i < s.l.diffs.length := by rw [Hq.out]; exact hlt
          have hdi := hHS.ok.d s.l.diffs[i] (List.getElem_mem hil)
          obtain ⟨bi, hbi⟩ : ∃ bi : Nat, s.l.diffs[i].bag = bi := ⟨_, (Int.toNat_of_nonneg hdi.b.1).symm⟩
          have hb2 := hdi.b.2
          have hk := hdi.k
          rw [hbi] at hb2 hk
          rw [Hm.out] at hb2
          rw [Int.toNat_natCast] at hk
          have hbm : bi < m1 := by omega
          have hbl : bi < s.l.bags.length := by rw [Hm.out]; exact hbm
          have hgd : s.l.bags.getD bi default = s.l.bags[bi] := by simp [hbl]
          rw [hgd] at hk
          have Hset := Lib.hid (brkF_step hHS.ok hil bi hbi m1)
          obtain ⟨o, p, rfl, -, c0, -, c2⟩ := hLr.d.at3 hil rfl
          obtain ⟨o2, p2, rfl, -, c3⟩ := (cells_bel hC6 hb (fun z hz => by have := hCb z hz; simp; omega)).at1 (k := bi) (by rw [Hcl.out]; exact hbm) rfl
          rw [hbi] at c0
          rw [show (s.l.bags.map Bag.broken)[bi]'(by rw [Hcl.out]; exact hbm) = s.l.diffs[i].broken by rw [List.getElem_map]; exact hk.symm] at c3
          clear hdi hk
          generalize s.l.diffs[i].broken = dk at *
          clear hgd hbi hb2 hil hbl
          go_upto_region 32 with fail
          clear p7 c0
          have hbm' : (bi : Int) < (m1 : Int) := by omega
          have hbm2 : ¬ (m1 : Int) ≤ (bi : Int) := by omega
          have hbm3 : ¬ m1 ≤ bi := by omega
          have hbm4 : ¬ (bi : Int) < 0 := by omega
          refine Dr.wp_region_plan 21 [] (.q [0, 1, 2, 3, 4, 5, 6, 7, 8, 9, 10, 11, 12, 13, 14, 15, 16, 17, 18, 19, 20] .done) (by kernel_rfl) (by kernel_rfl) ?_
          have hbd := hb.then_below ((ext_drew wr).mono hb.size)
          have hPd := hPr.drew
          have hKd := hK.drew
          have cc2 : wr.drew.cell? ⟨o, p + i * 3 + 2, none⟩ = some (.bool dk) := c2
          have cc3 : wr.drew.cell? ⟨o2, p2 + bi, none⟩ = some (.bool dk) := c3
          clear hK hb hPr hLr c2 c3
          generalize World.drew _ = V at *
          have r7 := Dr.cell0 (hPd.cell (i := 7) rfl)
          have r2 := Dr.cell0 cc2
          have r3 := Dr.cell0 cc3
          have hKf := hKd.free bi
          have kc : V.cell? ⟨K, bi, none⟩ = _ := hKd.cell (i := bi) (boolsL_get _ hbm)
          have p7 : V.cell? ⟨P, 7, none⟩ = _ := hPd.cell (i := 7) rfl
          have hKs := hKd.set bi (.bool dk)
          rw [Hset.out] at hKs
          have HKs := Lib.hid hKs
          have hKlt := hKd.lt
          clear hKs Hset hKd hPd
          cases dk
          all_goals
            refine Dr.plan_q (l := [_, _, _, _, _, _, _, _, _, _, _, _, _, _, _, _, _, _, _, _, _]) rfl (fun K hK => ?_)
            iterate 21 (go_big_quiet_step (fail))
            refine wpQuiet_nil (hK _ ?_); clear hK K
            refine Dr.plan_end rfl ?_
            clear r7 r2 r3
            go_wp2
            go_roundw
            case rel => exact ⟨i + 1, by go_num, by omega, HKs.out, hbd.put (by simp) _⟩
            case measure => simp [intOf]; omega
        · obtain rfl : i = q1 := by omega
          have hbw7 := hbw6.trans (hb.old (n := w.heap.size) (by have := hbw6.size; omega) (by simp; omega))
          have hTr := cells_bel hT6 hb (fun z hz => by have := hTb z hz; simp; omega)
          have hCr := cells_bel hC6 hb (fun z hz => by have := hCb z hz; simp; omega)
          clear hP6 hL6 hT6 hC6 hbw6 hb hlt
          have Hopk := Lib.hid (fun i (hi : i ≤ m1) => opK_bd hHS.bd (by omega) hHS.nk i (by rw [Hm.out]; exact hi))
          have Hops := Lib.hid (fun i (hi : i < m1) => opK_succ (s := s) (j := i) (by rw [Hm.out]; exact hi) (by rw [Htl.out]; exact hi))
          have Hbro := Lib.hid (fun i (hi : i < s.l.bags.length) => brkF_open hHS.ok hi)
          rw [Hq.out] at Hbro
          have Hpos := Lib.hid (show hon = true → opK s m1 - s.l.misW f = 0 from fun h => by
            have e1 := hHS.sm h
            have e2 := opK_all hHS.nk
            have e3 := misW_all hHS.ok
            rw [Hm.out] at e2
            rw [hHS.wn] at e3
            omega)
          have Hmb := Lib.hid (misW_bd hHS.ok)
          have Htk := Lib.hid (fun i (hi : i < s.tk.length) => hHS.bd _ (List.getElem_mem hi))
          have Hmi := Lib.hid (fun (h : Nat) hh => miss_in hHS.ok (n := f) (k := h) hLr.hn hh)
          clear hHS HS hTb hCb
          generalize wr = W7 at *
          go_wp2
          clear p7
          go_loopw [17, 21] (fun y x wr => ∃ i : Nat, x = .int .i64 i ∧ y = .int .i64 (opK s i) ∧ i ≤ m1 ∧ W7 = wr) (fun _ x _ => m1 - (intOf x).toNat)
          case atStart => exact ⟨0, rfl, by simp [opK, opT, isum], by omega, rfl⟩
          case round =>
            obtain ⟨h, rfl, rfl, hh, rfl⟩ := hrel
            have p1 : W7.cell? ⟨P, 1, none⟩ = _ := hPr.cell (i := 1) rfl
            by_cases hlt : h < m1
            · have hlt' : (h : Int) < (m1 : Int) := by omega
              have hil : h < s.l.bags.length := by rw [Hm.out]; exact hlt
              have hil2 : h < s.tk.length := by rw [Htl.out]; exact hlt
              have Hop := Lib.hid (Hops.out h hlt)
              have hv := Hopk.out h (by omega)
              have ht := Htk.out h hil2
              have Hbr := Lib.hid (Hbro.out h hil)
              obtain ⟨ob, pb, rfl, -, -, -, -, -, -, c5⟩ := hLr.b.at6 hil rfl
              obtain ⟨oc, pc, rfl, -, cc⟩ := hCr.at1 (k := h) (by rw [Hcl.out]; exact hlt) rfl
              obtain ⟨ot, pt, rfl, -, ct⟩ := hTr.at1 hil2 rfl
              rw [List.getElem_map] at cc
              have kc : W7.cell? ⟨K, h, none⟩ = _ := hK.cell (i := h) (boolsL_get _ hlt)
              generalize s.l.bags[h].opened = op at *
              generalize s.l.bags[h].broken = br at *
              generalize s.tk[h] = tv at *
              generalize opK s h = v at *
              generalize brkF s.l i h = bf at *
              clear hil hil2 Hops Hopk Hbro Hpos Hmb Htk Hmi
              cases op
              · have Hv := Lib.hid (show Value.int .i64 v = Value.int .i64 (opK s (h + 1)) by rw [Hop.out]; simp)
                go_wp2
                go_roundw
                case rel => exact ⟨h + 1, by go_num, Hv.out, by omega, trivial⟩
                case measure => simp [intOf]; omega
              · have Hv := Lib.hid (show Value.int .i64 (v + tv) = Value.int .i64 (opK s (h + 1)) by rw [Hop.out]; rfl)
                cases br
                · go_wp2
                  go_roundw
                  case rel => exact ⟨h + 1, by go_num, Hv.out, by omega, trivial⟩
                  case measure => simp [intOf]; omega
                · obtain rfl : bf = true := Hbr.out rfl rfl
                  go_wp2
                  go_roundw
                  case rel => exact ⟨h + 1, by go_num, Hv.out, by omega, trivial⟩
                  case measure => simp [intOf]; omega
            · obtain rfl : h = m1 := by omega
              have hv := Hopk.out h (Nat.le_refl _)
              clear hlt Hops Hopk Hbro Htk hTr hCr hK
              generalize opK s h = v at *
              go_wp2
              clear p1
              go_loopw [17, 22, 23, 24, 25] (fun y x _ _ _ wr => ∃ z : Nat, x = .int .i64 z ∧ y = .int .i64 (v - s.l.misW z) ∧ z ≤ f ∧ Below W7.heap.size W7 wr) (fun _ x _ _ _ _ => f - (intOf x).toNat)
              case atStart => exact ⟨0, rfl, by simp [Led.misW, isum], by omega, Below.refl _ _⟩
              case round =>
                obtain ⟨z, rfl, rfl, hz, hb⟩ := hrel
                by_cases hlt : z < f
                · have hlt' : (z : Int) < (f : Int) := by omega
                  have hLz := hLr.ext hb
                  have hPz := hPr.ext hb
                  have CM := Missing_any s.l A1 f c1 B1 h d1 D1 i e1 (z : Int) _ hLz
                  rw [Hmi.out z (by omega)] at CM
                  simp only at CM
                  have Hms := Lib.hid (misW_succ s.l z)
                  have hb1 := Hmb.out z
                  have hb2 := Hmb.out (z + 1)
                  rw [Hms.out] at hb2
                  have CM1 := Lib.hid CM
                  unfold ledV at CM1
                  generalize (s.l.missing (z : Int)).1 = ls at *
                  generalize (s.l.missing (z : Int)).2 = lb at *
                  generalize s.l.misW z = mw at *
                  clear CM hLz Hmi Hmb Hpos
                  have p0 : wr.cell? ⟨P, 0, none⟩ = _ := hPz.cell (i := 0) rfl
                  have p1 : wr.cell? ⟨P, 1, none⟩ = _ := hPz.cell (i := 1) rfl
                  have p2 : wr.cell? ⟨P, 2, none⟩ = _ := hPz.cell (i := 2) rfl
                  have p3 : wr.cell? ⟨P, 3, none⟩ = _ := hPz.cell (i := 3) rfl
                  have p4 : wr.cell? ⟨P, 4, none⟩ = _ := hPz.cell (i := 4) rfl
                  have p5 : wr.cell? ⟨P, 5, none⟩ = _ := hPz.cell (i := 5) rfl
                  have p6 : wr.cell? ⟨P, 6, none⟩ = _ := hPz.cell (i := 6) rfl
                  have p7 : wr.cell? ⟨P, 7, none⟩ = _ := hPz.cell (i := 7) rfl
                  go_wp2_with fail
                  refine CM1.out.mono ?_; rintro r V ⟨rfl, hbV⟩
                  have Hv := Lib.hid (show Value.int .i64 (v - mw - ls) = Value.int .i64 (v - s.l.misW (z + 1)) by rw [Hms.out]; exact int_congr (by omega))
                  clear p0 p1 p2 p3 p4 p5 p6 p7 CM1 Hms
                  go_wp2
                  go_roundw
                  case rel => exact ⟨z + 1, by go_num, Hv.out, by omega, ext_trans hb hbV⟩
                  case measure => simp [intOf]; omega
                · obtain rfl : z = f := by omega
                  have hbZ := ext_trans hbw7 hb
                  cases hon
                  · skip
                    go_wp2_with fail
                    refine (awake_any _).mono ?_; rintro r wz ⟨rfl, hbz⟩
                    go_wp2
                    go_ret
                    exact ⟨rfl, ext_trans hbZ hbz⟩
                  · have hp := Hpos.out rfl
                    rw [hp]
                    go_wp2_with fail
                    refine (awake_any _).mono ?_; rintro r wz ⟨rfl, hbz⟩
                    go_wp2
                    go_ret
                    exact ⟨rfl, ext_trans hbZ hbz⟩
end Go.Proofs.Ytnjdlhhgnamigaa

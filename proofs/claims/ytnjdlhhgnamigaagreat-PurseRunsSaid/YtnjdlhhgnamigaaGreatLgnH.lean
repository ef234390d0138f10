/- Walk: whether all bags of a ledger are right (the reference). -/
import Derived.Test.YtnjdlhhgnamigaaGreatLgnE
import Derived.Test.YtnjdlhhgnamigaaGreatSeqQ
namespace Go.Proofs.YtnjdlhhgnamigaaGreat
open Go.RowKit Go.Bs Go.Pu Go.Pl Go.Sort
set_option maxRecDepth 100000 in
set_option maxHeartbeats 4000000 in
theorem RightBags_any (l : Led) (A : Option Addr) (n c : Nat) (B : Option Addr) (m d : Nat) (D : Option Addr) (q e : Nat) (w : World) (hL : LedM w l A n B m D q) :
    Calls Tryz.prog 32 #[ledV A n c B m d l.office l.bank l.begun l.inn l.out D q e] w fun r w' => r = .returned (.bool ((List.range m).all l.bagB && decide (m ≤ 100))) ∧ Below w.heap.size w w' := by
  have hb0 := ext_alloc w (.cells #[.slice A n c, .slice B m d, .int .i64 l.office, .int .i64 l.bank, .int .i64 l.begun, .int .i64 l.inn, .int .i64 l.out, .slice D q e] 26)
  have hX := Blk.new w 26 [.slice A n c, .slice B m d, .int .i64 l.office, .int .i64 l.bank, .int .i64 l.begun, .int .i64 l.inn, .int .i64 l.out, .slice D q e]
  have hM := hL.ext hb0
  have Hbad := Lib.hid (fun k (hk : k < m) (h : l.bagB k = false) => (show ((List.range m).all l.bagB && decide (m ≤ 100)) = false by rw [all_bad hk h]; rfl))
  have Hgood := Lib.hid (fun (h : ∀ k, k < m → l.bagB k = true) => (show ((List.range m).all l.bagB && decide (m ≤ 100)) = decide (m ≤ 100) by rw [all_good h]; rfl))
  have CS := Lib.hid (fun s b W hM => sealedR_any l A n c B m d D q e s b W hM)
  have CN := Lib.hid (fun s W hM => namedR_any l A n c B m d D q e s W hM)
  have Hm := Lib.hid hM.hm
  have Hn := Lib.hid hM.hn
  have hm9 := hM.m9
  have hn9 := hM.n9
  unfold ledV at *
  clear hL
  generalize ((List.range m).all l.bagB && decide (m ≤ 100)) = res at *
  go_enter Tryz.func32, Tryz.ntmps32
  go_upto_region 1 with fail
  change Blk (w.alloc (.cells #[.slice A n c, .slice B m d, .int .i64 l.office, .int .i64 l.bank, .int .i64 l.begun, .int .i64 l.inn, .int .i64 l.out, .slice D q e] 26)) _ _ _ at hX
  generalize w.alloc (.cells #[.slice A n c, .slice B m d, .int .i64 l.office, .int .i64 l.bank, .int .i64 l.begun, .int .i64 l.inn, .int .i64 l.out, .slice D q e] 26) = W0 at *
  go_wp2
  go_loopw [3, 4] (fun x _ wr => ∃ k : Nat, x = .int .i64 k ∧ k ≤ m ∧ Hid (∀ j, j < k → l.bagB j = true) ∧ Below W0.heap.size W0 wr) (fun x _ _ => m - (intOf x).toNat)
  case atStart => exact ⟨0, rfl, by omega, Lib.hid (fun j h => by omega), Below.refl _ _⟩
  case round =>
    obtain ⟨k, rfl, hk, Hk, hb⟩ := hrel
    have x1 : wr.cell? ⟨w.heap.size, 1, none⟩ = _ := (hX.ext hb).cell (i := 1) rfl
    by_cases hlt : k < m
    · have hlt' : (k : Int) < m := by omega
      have hk1 : k < l.bags.length := by rw [Hm.out]; exact hlt
      have hgd : l.bags.getD k default = l.bags[k] := by simp [hk1]
      have HB := Lib.hid (Hbad.out k hlt)
      have HG := Lib.hid (fun (h : l.bagB k = true) j (hj : j < k + 1) => if e : j < k then Hk.out j e else (show j = k by omega) ▸ h)
      obtain ⟨o, p, rfl, -, c0, c1, c2, c3, c4, c5⟩ := (hM.ext hb).b.at6 hk1 rfl
      have hbag : l.bagB k = (decide (0 ≤ (l.bags[k]).window ∧ (l.bags[k]).window ≤ (n : Int) - 1) && (sealB (l.bags[k]).sl && (sealB (l.bags[k]).now && (monB (l.bags[k]).written && (monB (l.bags[k]).holds && (!l.sealed (l.bags[k]).sl k && (!l.sealed (l.bags[k]).now k && !((l.bags[k]).opened && ((l.bags[k]).holds != 0 || (((l.bags[k]).now != (l.bags[k]).sl) && !l.found k)))))))))) := by unfold Led.bagB; rw [hgd, Hn.out]; rfl
      have Hbag := Lib.hid hbag
      clear hbag hgd
      generalize l.bags[k] = x at *
      obtain ⟨a0, a1, a2, a3, a4, a5⟩ := x
      simp only at c0 c1 c2 c3 c4 c5 Hbag
      have C1 := Lib.hid (fun W => In_any a0 0 ((n : Int) - 1) W)
      have C2 := Lib.hid (fun W => (show Calls Tryz.prog 6 #[.int .i64 a1, .int .i64 1, .int .i64 1000000] W fun e w' => e = .returned (.bool (sealB a1)) ∧ W = w' from In_any a1 1 1000000 W))
      have C3 := Lib.hid (fun W => (show Calls Tryz.prog 6 #[.int .i64 a4, .int .i64 1, .int .i64 1000000] W fun e w' => e = .returned (.bool (sealB a4)) ∧ W = w' from In_any a4 1 1000000 W))
      have C4 := Lib.hid (fun W => moneyR_any a2 W)
      have C5 := Lib.hid (fun W => moneyR_any a3 W)
      have C6 := Lib.hid (CS.out a1 k)
      have C7 := Lib.hid (CS.out a4 k)
      have C8 := Lib.hid (CN.out k)
      generalize decide (0 ≤ a0 ∧ a0 ≤ (n : Int) - 1) = b1 at *
      generalize sealB a1 = b2 at *
      generalize sealB a4 = b3 at *
      generalize monB a2 = b4 at *
      generalize monB a3 = b5 at *
      generalize l.sealed a1 k = b6 at *
      generalize l.sealed a4 k = b7 at *
      generalize l.found k = b8 at *
      generalize hgg : l.bagB k = g at *
      clear hgg
      go_upto_region 5 with fail
      have hU := Blk.new wr 83 [.int .i64 a0, .int .i64 a1, .int .i64 a2, .int .i64 a3, .int .i64 a4, .bool a5]
      have hal := ext_alloc wr (.cells #[.int .i64 a0, .int .i64 a1, .int .i64 a2, .int .i64 a3, .int .i64 a4, .bool a5] 83)
      have hb2 := ext_trans hb hal
      change Blk (wr.alloc (.cells #[.int .i64 a0, .int .i64 a1, .int .i64 a2, .int .i64 a3, .int .i64 a4, .bool a5] 83)) _ _ _ at hU
      generalize wr.heap.size = U at *
      generalize wr.alloc (.cells #[.int .i64 a0, .int .i64 a1, .int .i64 a2, .int .i64 a3, .int .i64 a4, .bool a5] 83) = V at *
      clear c0 c1 c2 c3 c4 c5 hb hal x1 hk1 CS CN
      go_cut [88] (fun z W => z = .bool (!g) ∧ Below V.heap.size V W)
      case first =>
        have hu1 : ∀ b : Bool, (some undef = some (Value.bool b)) = False := fun b => by simp [undef]
        have hu2 : ∀ b : Bool, (undef = Value.bool b) = False := fun b => by simp [undef]
        refine Dr.seq_start2 (by simp only [List.append]; rfl) ?_
        have hbd := Below.refl V.heap.size V
        have hb3 := hb2
        have hU2 := hU
        clear hb2 hU HB HG Hk Hgood Hbad Hm Hn hb0 hlt hk
        have x0 : V.cell? ⟨w.heap.size, 0, none⟩ = _ := (hX.ext hb3).cell (i := 0) rfl
        have u0 : V.cell? ⟨U, 0, none⟩ = _ := hU2.cell (i := 0) rfl
        with_reducible refine Dr.seq_q (l := [_, _, _, _, _, _]) (by with_unfolding_all exact rfl) (fun K hK => ?_)
        iterate 6 (go_big_quiet_step (fail))
        refine wpQuiet_nil (hK _ ?_); clear hK K
        clear x0 u0
        refine Dr.seq_e (by rfl) (fun K hK => ?_)
        go_wp2_with fail
        refine (C1.out _).mono ?_; rintro r w9 ⟨rfl, rfl⟩
        go_wp2
        refine hK.out _ _ ?_; clear hK K
        clear C1
        cases b1
        · clear C2 C3 C4 C5 C6 C7 C8 hX hM hU2 hb3
          with_reducible refine Dr.seq_q (l := [_, _, _, _]) (by with_unfolding_all exact rfl) (fun K hK => ?_)
          iterate 4 (go_big_quiet_step (fail))
          refine wpQuiet_nil (hK _ ?_); clear hK K
          with_reducible refine Dr.seq_skip (by with_unfolding_all rfl) ?_
          go_frame
          with_reducible refine Dr.seq_q (l := [_, _, _, _, _]) (by with_unfolding_all exact rfl) (fun K hK => ?_)
          iterate 5 (go_big_quiet_step (fail))
          refine wpQuiet_nil (hK _ ?_); clear hK K
          with_reducible refine Dr.seq_skip (by with_unfolding_all rfl) ?_
          go_frame
          with_reducible refine Dr.seq_q (l := [_, _, _, _, _]) (by with_unfolding_all exact rfl) (fun K hK => ?_)
          iterate 5 (go_big_quiet_step (fail))
          refine wpQuiet_nil (hK _ ?_); clear hK K
          with_reducible refine Dr.seq_skip (by with_unfolding_all rfl) ?_
          go_frame
          with_reducible refine Dr.seq_q (l := [_, _, _, _, _]) (by with_unfolding_all exact rfl) (fun K hK => ?_)
          iterate 5 (go_big_quiet_step (fail))
          refine wpQuiet_nil (hK _ ?_); clear hK K
          with_reducible refine Dr.seq_skip (by with_unfolding_all rfl) ?_
          go_frame
          with_reducible refine Dr.seq_q (l := [_, _, _, _, _, _, _]) (by with_unfolding_all exact rfl) (fun K hK => ?_)
          iterate 7 (go_big_quiet_step (fail))
          refine wpQuiet_nil (hK _ ?_); clear hK K
          with_reducible refine Dr.seq_skip (by with_unfolding_all rfl) ?_
          go_frame
          with_reducible refine Dr.seq_q (l := [_, _, _, _, _, _]) (by with_unfolding_all exact rfl) (fun K hK => ?_)
          iterate 6 (go_big_quiet_step (fail))
          refine wpQuiet_nil (hK _ ?_); clear hK K
          with_reducible refine Dr.seq_skip (by with_unfolding_all rfl) ?_
          go_frame
          with_reducible refine Dr.seq_q (l := [_, _, _, _, _, _, _, _, _, _, _]) (by with_unfolding_all exact rfl) (fun K hK => ?_)
          iterate 11 (go_big_quiet_step (fail))
          refine wpQuiet_nil (hK _ ?_); clear hK K
          with_reducible refine Dr.seq_q (l := [_, _, _, _, _, _, _, _, _, _, _, _]) (by with_unfolding_all exact rfl) (fun K hK => ?_)
          iterate 12 (go_big_quiet_step (fail))
          refine wpQuiet_nil (hK _ ?_); clear hK K
          with_reducible refine Dr.seq_skip (by with_unfolding_all rfl) ?_
          go_frame
          with_reducible refine Dr.seq_q (l := [_, _, _]) (by with_unfolding_all exact rfl) (fun K hK => ?_)
          iterate 3 (go_big_quiet_step (fail))
          refine wpQuiet_nil (hK _ ?_); clear hK K
          refine Dr.seq_end ?_
          go_wp2
          go_meet
          case rel => exact ⟨congrArg Value.bool (by rw [Hbag.out]; rfl), hbd⟩
        have u1 : V.cell? ⟨U, 1, none⟩ = _ := hU2.cell (i := 1) rfl
        with_reducible refine Dr.seq_q (l := [_, _, _, _]) (by with_unfolding_all exact rfl) (fun K hK => ?_)
        iterate 4 (go_big_quiet_step (fail))
        refine wpQuiet_nil (hK _ ?_); clear hK K
        clear u1
        refine Dr.seq_e (by rfl) (fun K hK => ?_)
        go_wp2_with fail
        refine (C2.out _).mono ?_; rintro r w9 ⟨rfl, rfl⟩
        go_wp2
        refine hK.out _ _ ?_; clear hK K
        clear C2
        cases b2
        · clear C3 C4 C5 C6 C7 C8 hX hM hU2 hb3
          with_reducible refine Dr.seq_q (l := [_, _, _, _, _]) (by with_unfolding_all exact rfl) (fun K hK => ?_)
          iterate 5 (go_big_quiet_step (fail))
          refine wpQuiet_nil (hK _ ?_); clear hK K
          with_reducible refine Dr.seq_skip (by with_unfolding_all rfl) ?_
          go_frame
          with_reducible refine Dr.seq_q (l := [_, _, _, _, _]) (by with_unfolding_all exact rfl) (fun K hK => ?_)
          iterate 5 (go_big_quiet_step (fail))
          refine wpQuiet_nil (hK _ ?_); clear hK K
          with_reducible refine Dr.seq_skip (by with_unfolding_all rfl) ?_
          go_frame
          with_reducible refine Dr.seq_q (l := [_, _, _, _, _]) (by with_unfolding_all exact rfl) (fun K hK => ?_)
          iterate 5 (go_big_quiet_step (fail))
          refine wpQuiet_nil (hK _ ?_); clear hK K
          with_reducible refine Dr.seq_skip (by with_unfolding_all rfl) ?_
          go_frame
          with_reducible refine Dr.seq_q (l := [_, _, _, _, _, _, _]) (by with_unfolding_all exact rfl) (fun K hK => ?_)
          iterate 7 (go_big_quiet_step (fail))
          refine wpQuiet_nil (hK _ ?_); clear hK K
          with_reducible refine Dr.seq_skip (by with_unfolding_all rfl) ?_
          go_frame
          with_reducible refine Dr.seq_q (l := [_, _, _, _, _, _]) (by with_unfolding_all exact rfl) (fun K hK => ?_)
          iterate 6 (go_big_quiet_step (fail))
          refine wpQuiet_nil (hK _ ?_); clear hK K
          with_reducible refine Dr.seq_skip (by with_unfolding_all rfl) ?_
          go_frame
          with_reducible refine Dr.seq_q (l := [_, _, _, _, _, _, _, _, _, _, _]) (by with_unfolding_all exact rfl) (fun K hK => ?_)
          iterate 11 (go_big_quiet_step (fail))
          refine wpQuiet_nil (hK _ ?_); clear hK K
          with_reducible refine Dr.seq_q (l := [_, _, _, _, _, _, _, _, _, _, _, _]) (by with_unfolding_all exact rfl) (fun K hK => ?_)
          iterate 12 (go_big_quiet_step (fail))
          refine wpQuiet_nil (hK _ ?_); clear hK K
          with_reducible refine Dr.seq_skip (by with_unfolding_all rfl) ?_
          go_frame
          with_reducible refine Dr.seq_q (l := [_, _, _]) (by with_unfolding_all exact rfl) (fun K hK => ?_)
          iterate 3 (go_big_quiet_step (fail))
          refine wpQuiet_nil (hK _ ?_); clear hK K
          refine Dr.seq_end ?_
          go_wp2
          go_meet
          case rel => exact ⟨congrArg Value.bool (by rw [Hbag.out]; rfl), hbd⟩
        have u4 : V.cell? ⟨U, 4, none⟩ = _ := hU2.cell (i := 4) rfl
        with_reducible refine Dr.seq_q (l := [_, _, _, _, _]) (by with_unfolding_all exact rfl) (fun K hK => ?_)
        iterate 5 (go_big_quiet_step (fail))
        refine wpQuiet_nil (hK _ ?_); clear hK K
        clear u4
        refine Dr.seq_e (by rfl) (fun K hK => ?_)
        go_wp2_with fail
        refine (C3.out _).mono ?_; rintro r w9 ⟨rfl, rfl⟩
        go_wp2
        refine hK.out _ _ ?_; clear hK K
        clear C3
        cases b3
        · clear C4 C5 C6 C7 C8 hX hM hU2 hb3
          with_reducible refine Dr.seq_q (l := [_, _, _, _, _]) (by with_unfolding_all exact rfl) (fun K hK => ?_)
          iterate 5 (go_big_quiet_step (fail))
          refine wpQuiet_nil (hK _ ?_); clear hK K
          with_reducible refine Dr.seq_skip (by with_unfolding_all rfl) ?_
          go_frame
          with_reducible refine Dr.seq_q (l := [_, _, _, _, _]) (by with_unfolding_all exact rfl) (fun K hK => ?_)
          iterate 5 (go_big_quiet_step (fail))
          refine wpQuiet_nil (hK _ ?_); clear hK K
          with_reducible refine Dr.seq_skip (by with_unfolding_all rfl) ?_
          go_frame
          with_reducible refine Dr.seq_q (l := [_, _, _, _, _, _, _]) (by with_unfolding_all exact rfl) (fun K hK => ?_)
          iterate 7 (go_big_quiet_step (fail))
          refine wpQuiet_nil (hK _ ?_); clear hK K
          with_reducible refine Dr.seq_skip (by with_unfolding_all rfl) ?_
          go_frame
          with_reducible refine Dr.seq_q (l := [_, _, _, _, _, _]) (by with_unfolding_all exact rfl) (fun K hK => ?_)
          iterate 6 (go_big_quiet_step (fail))
          refine wpQuiet_nil (hK _ ?_); clear hK K
          with_reducible refine Dr.seq_skip (by with_unfolding_all rfl) ?_
          go_frame
          with_reducible refine Dr.seq_q (l := [_, _, _, _, _, _, _, _, _, _, _]) (by with_unfolding_all exact rfl) (fun K hK => ?_)
          iterate 11 (go_big_quiet_step (fail))
          refine wpQuiet_nil (hK _ ?_); clear hK K
          with_reducible refine Dr.seq_q (l := [_, _, _, _, _, _, _, _, _, _, _, _]) (by with_unfolding_all exact rfl) (fun K hK => ?_)
          iterate 12 (go_big_quiet_step (fail))
          refine wpQuiet_nil (hK _ ?_); clear hK K
          with_reducible refine Dr.seq_skip (by with_unfolding_all rfl) ?_
          go_frame
          with_reducible refine Dr.seq_q (l := [_, _, _]) (by with_unfolding_all exact rfl) (fun K hK => ?_)
          iterate 3 (go_big_quiet_step (fail))
          refine wpQuiet_nil (hK _ ?_); clear hK K
          refine Dr.seq_end ?_
          go_wp2
          go_meet
          case rel => exact ⟨congrArg Value.bool (by rw [Hbag.out]; rfl), hbd⟩
        have u2 : V.cell? ⟨U, 2, none⟩ = _ := hU2.cell (i := 2) rfl
        with_reducible refine Dr.seq_q (l := [_, _, _, _, _]) (by with_unfolding_all exact rfl) (fun K hK => ?_)
        iterate 5 (go_big_quiet_step (fail))
        refine wpQuiet_nil (hK _ ?_); clear hK K
        clear u2
        refine Dr.seq_e (by rfl) (fun K hK => ?_)
        go_wp2_with fail
        refine (C4.out _).mono ?_; rintro r w9 ⟨rfl, rfl⟩
        go_wp2
        refine hK.out _ _ ?_; clear hK K
        clear C4
        cases b4
        · clear C5 C6 C7 C8 hX hM hU2 hb3
          with_reducible refine Dr.seq_q (l := [_, _, _, _, _]) (by with_unfolding_all exact rfl) (fun K hK => ?_)
          iterate 5 (go_big_quiet_step (fail))
          refine wpQuiet_nil (hK _ ?_); clear hK K
          with_reducible refine Dr.seq_skip (by with_unfolding_all rfl) ?_
          go_frame
          with_reducible refine Dr.seq_q (l := [_, _, _, _, _, _, _]) (by with_unfolding_all exact rfl) (fun K hK => ?_)
          iterate 7 (go_big_quiet_step (fail))
          refine wpQuiet_nil (hK _ ?_); clear hK K
          with_reducible refine Dr.seq_skip (by with_unfolding_all rfl) ?_
          go_frame
          with_reducible refine Dr.seq_q (l := [_, _, _, _, _, _]) (by with_unfolding_all exact rfl) (fun K hK => ?_)
          iterate 6 (go_big_quiet_step (fail))
          refine wpQuiet_nil (hK _ ?_); clear hK K
          with_reducible refine Dr.seq_skip (by with_unfolding_all rfl) ?_
          go_frame
          with_reducible refine Dr.seq_q (l := [_, _, _, _, _, _, _, _, _, _, _]) (by with_unfolding_all exact rfl) (fun K hK => ?_)
          iterate 11 (go_big_quiet_step (fail))
          refine wpQuiet_nil (hK _ ?_); clear hK K
          with_reducible refine Dr.seq_q (l := [_, _, _, _, _, _, _, _, _, _, _, _]) (by with_unfolding_all exact rfl) (fun K hK => ?_)
          iterate 12 (go_big_quiet_step (fail))
          refine wpQuiet_nil (hK _ ?_); clear hK K
          with_reducible refine Dr.seq_skip (by with_unfolding_all rfl) ?_
          go_frame
          with_reducible refine Dr.seq_q (l := [_, _, _]) (by with_unfolding_all exact rfl) (fun K hK => ?_)
          iterate 3 (go_big_quiet_step (fail))
          refine wpQuiet_nil (hK _ ?_); clear hK K
          refine Dr.seq_end ?_
          go_wp2
          go_meet
          case rel => exact ⟨congrArg Value.bool (by rw [Hbag.out]; rfl), hbd⟩
        have u3 : V.cell? ⟨U, 3, none⟩ = _ := hU2.cell (i := 3) rfl
        with_reducible refine Dr.seq_q (l := [_, _, _, _, _]) (by with_unfolding_all exact rfl) (fun K hK => ?_)
        iterate 5 (go_big_quiet_step (fail))
        refine wpQuiet_nil (hK _ ?_); clear hK K
        clear u3
        refine Dr.seq_e (by rfl) (fun K hK => ?_)
        go_wp2_with fail
        refine (C5.out _).mono ?_; rintro r w9 ⟨rfl, rfl⟩
        go_wp2
        refine hK.out _ _ ?_; clear hK K
        clear C5
        cases b5
        · clear C6 C7 C8 hX hM hU2 hb3
          with_reducible refine Dr.seq_q (l := [_, _, _, _, _, _, _]) (by with_unfolding_all exact rfl) (fun K hK => ?_)
          iterate 7 (go_big_quiet_step (fail))
          refine wpQuiet_nil (hK _ ?_); clear hK K
          with_reducible refine Dr.seq_skip (by with_unfolding_all rfl) ?_
          go_frame
          with_reducible refine Dr.seq_q (l := [_, _, _, _, _, _]) (by with_unfolding_all exact rfl) (fun K hK => ?_)
          iterate 6 (go_big_quiet_step (fail))
          refine wpQuiet_nil (hK _ ?_); clear hK K
          with_reducible refine Dr.seq_skip (by with_unfolding_all rfl) ?_
          go_frame
          with_reducible refine Dr.seq_q (l := [_, _, _, _, _, _, _, _, _, _, _]) (by with_unfolding_all exact rfl) (fun K hK => ?_)
          iterate 11 (go_big_quiet_step (fail))
          refine wpQuiet_nil (hK _ ?_); clear hK K
          with_reducible refine Dr.seq_q (l := [_, _, _, _, _, _, _, _, _, _, _, _]) (by with_unfolding_all exact rfl) (fun K hK => ?_)
          iterate 12 (go_big_quiet_step (fail))
          refine wpQuiet_nil (hK _ ?_); clear hK K
          with_reducible refine Dr.seq_skip (by with_unfolding_all rfl) ?_
          go_frame
          with_reducible refine Dr.seq_q (l := [_, _, _]) (by with_unfolding_all exact rfl) (fun K hK => ?_)
          iterate 3 (go_big_quiet_step (fail))
          refine wpQuiet_nil (hK _ ?_); clear hK K
          refine Dr.seq_end ?_
          go_wp2
          go_meet
          case rel => exact ⟨congrArg Value.bool (by rw [Hbag.out]; rfl), hbd⟩
        have x0 : V.cell? ⟨w.heap.size, 0, none⟩ = _ := (hX.ext hb3).cell (i := 0) rfl
        have x1 : V.cell? ⟨w.heap.size, 1, none⟩ = _ := (hX.ext hb3).cell (i := 1) rfl
        have x2 : V.cell? ⟨w.heap.size, 2, none⟩ = _ := (hX.ext hb3).cell (i := 2) rfl
        have x3 : V.cell? ⟨w.heap.size, 3, none⟩ = _ := (hX.ext hb3).cell (i := 3) rfl
        have x4 : V.cell? ⟨w.heap.size, 4, none⟩ = _ := (hX.ext hb3).cell (i := 4) rfl
        have x5 : V.cell? ⟨w.heap.size, 5, none⟩ = _ := (hX.ext hb3).cell (i := 5) rfl
        have x6 : V.cell? ⟨w.heap.size, 6, none⟩ = _ := (hX.ext hb3).cell (i := 6) rfl
        have x7 : V.cell? ⟨w.heap.size, 7, none⟩ = _ := (hX.ext hb3).cell (i := 7) rfl
        have u1 : V.cell? ⟨U, 1, none⟩ = _ := hU2.cell (i := 1) rfl
        with_reducible refine Dr.seq_q (l := [_, _, _, _, _, _, _]) (by with_unfolding_all exact rfl) (fun K hK => ?_)
        iterate 7 (go_big_quiet_step (fail))
        refine wpQuiet_nil (hK _ ?_); clear hK K
        clear u1 x0 x1 x2 x3 x4 x5 x6 x7
        refine Dr.seq_e (by rfl) (fun K hK => ?_)
        go_wp2_with fail
        refine (C6.out _ (hM.ext hb3)).mono ?_; rintro r V3 ⟨rfl, hb4⟩
        go_wp2
        refine hK.out _ _ ?_; clear hK K
        clear C6
        have hd4 := ext_trans hbd hb4
        have hc4 := ext_trans hb3 hb4
        have hU3 := hU2.ext hb4
        clear hbd hU2 hb4 hb3
        cases b6
        rotate_left
        · clear C7 C8 hX hM hU3 hc4
          with_reducible refine Dr.seq_q (l := [_, _, _, _, _, _]) (by with_unfolding_all exact rfl) (fun K hK => ?_)
          iterate 6 (go_big_quiet_step (fail))
          refine wpQuiet_nil (hK _ ?_); clear hK K
          with_reducible refine Dr.seq_skip (by with_unfolding_all rfl) ?_
          go_frame
          with_reducible refine Dr.seq_q (l := [_, _, _, _, _, _, _, _, _, _, _]) (by with_unfolding_all exact rfl) (fun K hK => ?_)
          iterate 11 (go_big_quiet_step (fail))
          refine wpQuiet_nil (hK _ ?_); clear hK K
          with_reducible refine Dr.seq_q (l := [_, _, _, _, _, _, _, _, _, _, _, _]) (by with_unfolding_all exact rfl) (fun K hK => ?_)
          iterate 12 (go_big_quiet_step (fail))
          refine wpQuiet_nil (hK _ ?_); clear hK K
          with_reducible refine Dr.seq_skip (by with_unfolding_all rfl) ?_
          go_frame
          with_reducible refine Dr.seq_q (l := [_, _, _]) (by with_unfolding_all exact rfl) (fun K hK => ?_)
          iterate 3 (go_big_quiet_step (fail))
          refine wpQuiet_nil (hK _ ?_); clear hK K
          refine Dr.seq_end ?_
          go_wp2
          go_meet
          case rel => exact ⟨congrArg Value.bool (by rw [Hbag.out]; rfl), hd4⟩
        have x0 : V3.cell? ⟨w.heap.size, 0, none⟩ = _ := (hX.ext hc4).cell (i := 0) rfl
        have x1 : V3.cell? ⟨w.heap.size, 1, none⟩ = _ := (hX.ext hc4).cell (i := 1) rfl
        have x2 : V3.cell? ⟨w.heap.size, 2, none⟩ = _ := (hX.ext hc4).cell (i := 2) rfl
        have x3 : V3.cell? ⟨w.heap.size, 3, none⟩ = _ := (hX.ext hc4).cell (i := 3) rfl
        have x4 : V3.cell? ⟨w.heap.size, 4, none⟩ = _ := (hX.ext hc4).cell (i := 4) rfl
        have x5 : V3.cell? ⟨w.heap.size, 5, none⟩ = _ := (hX.ext hc4).cell (i := 5) rfl
        have x6 : V3.cell? ⟨w.heap.size, 6, none⟩ = _ := (hX.ext hc4).cell (i := 6) rfl
        have x7 : V3.cell? ⟨w.heap.size, 7, none⟩ = _ := (hX.ext hc4).cell (i := 7) rfl
        have u4 : V3.cell? ⟨U, 4, none⟩ = _ := hU3.cell (i := 4) rfl
        with_reducible refine Dr.seq_q (l := [_, _, _, _, _, _]) (by with_unfolding_all exact rfl) (fun K hK => ?_)
        iterate 6 (go_big_quiet_step (fail))
        refine wpQuiet_nil (hK _ ?_); clear hK K
        clear u4 x0 x1 x2 x3 x4 x5 x6 x7
        refine Dr.seq_e (by rfl) (fun K hK => ?_)
        go_wp2_with fail
        refine (C7.out _ (hM.ext hc4)).mono ?_; rintro r V4 ⟨rfl, hb5⟩
        go_wp2
        refine hK.out _ _ ?_; clear hK K
        clear C7
        have hd5 := ext_trans hd4 hb5
        have hc5 := ext_trans hc4 hb5
        have hU4 := hU3.ext hb5
        clear hd4 hU3 hb5 hc4
        cases b7
        rotate_left
        · clear C8 hX hM hU4 hc5
          with_reducible refine Dr.seq_q (l := [_, _, _, _, _, _, _, _, _, _, _]) (by with_unfolding_all exact rfl) (fun K hK => ?_)
          iterate 11 (go_big_quiet_step (fail))
          refine wpQuiet_nil (hK _ ?_); clear hK K
          with_reducible refine Dr.seq_q (l := [_, _, _, _, _, _, _, _, _, _, _, _]) (by with_unfolding_all exact rfl) (fun K hK => ?_)
          iterate 12 (go_big_quiet_step (fail))
          refine wpQuiet_nil (hK _ ?_); clear hK K
          with_reducible refine Dr.seq_skip (by with_unfolding_all rfl) ?_
          go_frame
          with_reducible refine Dr.seq_q (l := [_, _, _]) (by with_unfolding_all exact rfl) (fun K hK => ?_)
          iterate 3 (go_big_quiet_step (fail))
          refine wpQuiet_nil (hK _ ?_); clear hK K
          refine Dr.seq_end ?_
          go_wp2
          go_meet
          case rel => exact ⟨congrArg Value.bool (by rw [Hbag.out]; rfl), hd5⟩
        have u5 : V4.cell? ⟨U, 5, none⟩ = _ := hU4.cell (i := 5) rfl
        cases a5
        · clear C8 hX hM hU4 hc5
          with_reducible refine Dr.seq_q (l := [_, _, _, _, _, _, _, _, _, _, _]) (by with_unfolding_all exact rfl) (fun K hK => ?_)
          iterate 11 (go_big_quiet_step (fail))
          refine wpQuiet_nil (hK _ ?_); clear hK K
          with_reducible refine Dr.seq_q (l := [_, _, _, _, _, _, _, _, _, _, _, _]) (by with_unfolding_all exact rfl) (fun K hK => ?_)
          iterate 12 (go_big_quiet_step (fail))
          refine wpQuiet_nil (hK _ ?_); clear hK K
          with_reducible refine Dr.seq_skip (by with_unfolding_all rfl) ?_
          go_frame
          with_reducible refine Dr.seq_q (l := [_, _, _]) (by with_unfolding_all exact rfl) (fun K hK => ?_)
          iterate 3 (go_big_quiet_step (fail))
          refine wpQuiet_nil (hK _ ?_); clear hK K
          refine Dr.seq_end ?_
          go_wp2
          go_meet
          case rel => exact ⟨congrArg Value.bool (by rw [Hbag.out]; simp), hd5⟩
        have u3 : V4.cell? ⟨U, 3, none⟩ = _ := hU4.cell (i := 3) rfl
        by_cases h3 : a3 = 0
        rotate_left
        · have e3 : (a3 == 0) = false := by simpa using h3
          have e3' : (a3 != 0) = true := by simpa using h3
          have H3 := Lib.hid h3
          clear h3 C8 hX hM hU4 hc5
          with_reducible refine Dr.seq_q (l := [_, _, _, _, _, _, _, _, _, _, _]) (by with_unfolding_all exact rfl) (fun K hK => ?_)
          iterate 11 (go_big_quiet_step (fail))
          refine wpQuiet_nil (hK _ ?_); clear hK K
          with_reducible refine Dr.seq_q (l := [_, _, _, _, _, _, _, _, _, _, _, _]) (by with_unfolding_all exact rfl) (fun K hK => ?_)
          iterate 12 (go_big_quiet_step (fail))
          refine wpQuiet_nil (hK _ ?_); clear hK K
          with_reducible refine Dr.seq_skip (by with_unfolding_all rfl) ?_
          go_frame
          with_reducible refine Dr.seq_q (l := [_, _, _]) (by with_unfolding_all exact rfl) (fun K hK => ?_)
          iterate 3 (go_big_quiet_step (fail))
          refine wpQuiet_nil (hK _ ?_); clear hK K
          refine Dr.seq_end ?_
          go_wp2
          go_meet
          case rel => exact ⟨congrArg Value.bool (by rw [Hbag.out]; simp [H3.out]), hd5⟩
        have u1 : V4.cell? ⟨U, 1, none⟩ = _ := hU4.cell (i := 1) rfl
        have u4 : V4.cell? ⟨U, 4, none⟩ = _ := hU4.cell (i := 4) rfl
        subst h3
        by_cases h4 : a4 = a1
        · have e4 : (a4 == a1) = true := by simpa using h4
          have e4' : (a4 != a1) = false := by simpa using h4
          have H4 := Lib.hid h4
          clear h4 C8 hX hM hU4 hc5
          with_reducible refine Dr.seq_q (l := [_, _, _, _, _, _, _, _, _, _, _]) (by with_unfolding_all exact rfl) (fun K hK => ?_)
          iterate 11 (go_big_quiet_step (fail))
          refine wpQuiet_nil (hK _ ?_); clear hK K
          with_reducible refine Dr.seq_q (l := [_, _, _, _, _, _, _, _, _, _, _, _]) (by with_unfolding_all exact rfl) (fun K hK => ?_)
          iterate 12 (go_big_quiet_step (fail))
          refine wpQuiet_nil (hK _ ?_); clear hK K
          with_reducible refine Dr.seq_skip (by with_unfolding_all rfl) ?_
          go_frame
          with_reducible refine Dr.seq_q (l := [_, _, _]) (by with_unfolding_all exact rfl) (fun K hK => ?_)
          iterate 3 (go_big_quiet_step (fail))
          refine wpQuiet_nil (hK _ ?_); clear hK K
          refine Dr.seq_end ?_
          go_wp2
          go_meet
          case rel => exact ⟨congrArg Value.bool (by rw [Hbag.out]; simp [H4.out]), hd5⟩
        have e4 : (a4 == a1) = false := by simpa using h4
        have e4' : (a4 != a1) = true := by simpa using h4
        have H4 := Lib.hid h4
        clear h4
        have x0 : V4.cell? ⟨w.heap.size, 0, none⟩ = _ := (hX.ext hc5).cell (i := 0) rfl
        have x1 : V4.cell? ⟨w.heap.size, 1, none⟩ = _ := (hX.ext hc5).cell (i := 1) rfl
        have x2 : V4.cell? ⟨w.heap.size, 2, none⟩ = _ := (hX.ext hc5).cell (i := 2) rfl
        have x3 : V4.cell? ⟨w.heap.size, 3, none⟩ = _ := (hX.ext hc5).cell (i := 3) rfl
        have x4 : V4.cell? ⟨w.heap.size, 4, none⟩ = _ := (hX.ext hc5).cell (i := 4) rfl
        have x5 : V4.cell? ⟨w.heap.size, 5, none⟩ = _ := (hX.ext hc5).cell (i := 5) rfl
        have x6 : V4.cell? ⟨w.heap.size, 6, none⟩ = _ := (hX.ext hc5).cell (i := 6) rfl
        have x7 : V4.cell? ⟨w.heap.size, 7, none⟩ = _ := (hX.ext hc5).cell (i := 7) rfl
        with_reducible refine Dr.seq_q (l := [_, _, _, _, _, _, _, _, _, _, _]) (by with_unfolding_all exact rfl) (fun K hK => ?_)
        iterate 11 (go_big_quiet_step (fail))
        refine wpQuiet_nil (hK _ ?_); clear hK K
        with_reducible refine Dr.seq_q (l := [_, _, _, _, _, _, _, _, _, _, _, _]) (by with_unfolding_all exact rfl) (fun K hK => ?_)
        iterate 12 (go_big_quiet_step (fail))
        refine wpQuiet_nil (hK _ ?_); clear hK K
        clear u1 u3 u4 u5 x0 x1 x2 x3 x4 x5 x6 x7
        refine Dr.seq_e (by rfl) (fun K hK => ?_)
        go_wp2_with fail
        refine (C8.out _ (hM.ext hc5)).mono ?_; rintro r V5 ⟨rfl, hb6⟩
        go_wp2
        refine hK.out _ _ ?_; clear hK K
        have hd6 := ext_trans hd5 hb6
        clear hX hM hU4 hc5 hd5 hb6
        cases b8
        · skip
          with_reducible refine Dr.seq_q (l := [_, _, _]) (by with_unfolding_all exact rfl) (fun K hK => ?_)
          iterate 3 (go_big_quiet_step (fail))
          refine wpQuiet_nil (hK _ ?_); clear hK K
          refine Dr.seq_end ?_
          go_wp2
          go_meet
          case rel => exact ⟨congrArg Value.bool (by rw [Hbag.out]; simp [H4.out]), hd6⟩
        · skip
          with_reducible refine Dr.seq_q (l := [_, _, _]) (by with_unfolding_all exact rfl) (fun K hK => ?_)
          iterate 3 (go_big_quiet_step (fail))
          refine wpQuiet_nil (hK _ ?_); clear hK K
          refine Dr.seq_end ?_
          go_wp2
          go_meet
          case rel => exact ⟨congrArg Value.bool (by rw [Hbag.out]; simp), hd6⟩
      case rest =>
        obtain ⟨rfl, hb3⟩ := hcut
        have hb4 := ext_trans hb2 hb3
        clear C1 C2 C3 C4 C5 C6 C7 C8 Hbag
        cases g
        · have HY := Lib.hid (show false = res from (HB.out rfl).symm)
          go_wp2
          go_ret
          exact ⟨ret_congr (bool_congr HY.out), ext_trans hb0 hb4⟩
        · have HN := Lib.hid (HG.out rfl)
          go_wp2
          go_roundw
          case rel => exact ⟨k + 1, by go_num, by omega, HN, hb4⟩
          case measure => simp [intOf]; omega
    · obtain rfl : k = m := by omega
      have HY0 := Lib.hid (Hgood.out Hk.out).symm
      by_cases h100 : k ≤ 100
      · have h100' : (k : Int) ≤ 100 := by omega
        have HY := Lib.hid ((decide_eq_true h100).symm.trans HY0.out)
        go_wp2
        go_ret
        exact ⟨ret_congr (bool_congr HY.out), ext_trans hb0 hb⟩
      · have h100' : ¬ (k : Int) ≤ 100 := by omega
        have HY := Lib.hid ((decide_eq_false h100).symm.trans HY0.out)
        go_wp2
        go_ret
        exact ⟨ret_congr (bool_congr HY.out), ext_trans hb0 hb⟩
end Go.Proofs.YtnjdlhhgnamigaaGreat

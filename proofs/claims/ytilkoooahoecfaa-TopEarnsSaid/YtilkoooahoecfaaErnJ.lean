/- Walks: route: tests, fault, faults. (Printed by mk_ernj.py.) -/
import Derived.Test.YtilkoooahoecfaaErnI
import Derived.Test.YtilkoooahoecfaaErnQ
namespace Go.Proofs.Ytilkoooahoecfaa.Er
open Go.RowKit Go.Bs Go.Pl Go.Sort Go.Er
def tstL : List Value := [.int .u8 1, .func (.func 82) #[] #[], .int .u8 2, .func (.func 83) #[] #[], .int .u8 3, .func (.func 84) #[] #[], .int .u8 4, .func (.func 86) #[] #[], .int .u8 5, .func (.func 88) #[] #[], .int .u8 6, .func (.func 91) #[] #[], .int .u8 7, .func (.func 93) #[] #[]]
theorem tests_any (w : World) : Calls Try.prog 52 #[] w fun e w' => (∃ b, e = .returned (.slice (some ⟨b, 0, none⟩) 7 7) ∧ Blk w' b 161 tstL) ∧ Below w.heap.size w w' := by
  have hx := ext_alloc w (.cells tstL.toArray 161)
  have hB := Blk.new w 161 tstL
  unfold tstL at *
  go_enter Try.func52, Try.ntmps52
  go_wp2
  go_ret
  exact ⟨⟨_, rfl, hB⟩, hx⟩
def FaUp (t : TrV) (s : StE) (j : Nat) : Prop := (1 ≤ j → Played t s) ∧ (3 ≤ j → s.fst ≤ s.lst ∧ s.lst - s.fst ≤ 9) ∧ (4 ≤ j → 0 ≤ s.fst ∧ s.lst ≤ t.days - 1)
set_option maxRecDepth 100000 in
set_option maxHeartbeats 4000000 in
theorem fault_any (t : TrV) (l : List StE) (S : Option Addr) (m c i B : Nat) (w : World) (hM : TrM w t) (ht : TrOk t) (hS : Cells w S 3 StE.enc l) (hm : l.length = m) (hi : i < m) (hm9 : m ≤ 1000) (hmc : m ≤ c) (hn : NearE (l.getD i default)) (hB : Blk w B 161 tstL) :
    Calls Try.prog 51 #[t.val, .slice S m c, .int .i64 i, .slice (some ⟨B, 0, none⟩) 7 7] w fun e w' => (∃ k : Int, e = .returned (.int .u8 k) ∧ (k = 0 → StopOk t (l.getD i default))) ∧ Below w.heap.size w w' := by
  have hx := ext_alloc w (.cells t.cells.toArray 33)
  have hT := Blk.new w 33 t.cells
  have hB1 := hB.ext hx
  unfold tstL at hB1
  have D0 := Lib.hid (fun V (hV : Below w.heap.size w V) => test1_any t l S m c i V (hM.ext hV) ht (hS.ext hV) hm hi)
  have D1 := Lib.hid (fun V (hV : Below w.heap.size w V) (hp : Played t (l.getD i default)) => test2_any t l S m c i V (hM.ext hV) ht (hS.ext hV) hm hi hp)
  have D2 := Lib.hid (fun V (hV : Below w.heap.size w V) (hp : Played t (l.getD i default)) => test3_any t l S m c i V (hM.ext hV) ht (hS.ext hV) hm hi hp hn)
  have D3 := Lib.hid (fun V (hV : Below w.heap.size w V) (hp : Played t (l.getD i default)) => test4_any t l S m c i V (hM.ext hV) ht (hS.ext hV) hm hi hp)
  have D4 := Lib.hid (fun V (hV : Below w.heap.size w V) => test5_any t l S m c i V (hS.ext hV) hm hi hm9 hmc)
  have D5 := Lib.hid (fun V (hV : Below w.heap.size w V) (hp : Played t (l.getD i default)) => test6_any t l S m c i V (hM.ext hV) ht (hS.ext hV) hm hi hm9 hp)
  have D6 := Lib.hid (fun V (hV : Below w.heap.size w V) (hp : Played t (l.getD i default)) => test7_any t l S m c i V (hM.ext hV) ht (hS.ext hV) hm hi hm9 hp)
  have eg0 := enters_of Try.func82 (by kernel_rfl) rfl
  have eg1 := enters_of Try.func83 (by kernel_rfl) rfl
  have eg2 := enters_of Try.func84 (by kernel_rfl) rfl
  have eg3 := enters_of Try.func86 (by kernel_rfl) rfl
  have eg4 := enters_of Try.func88 (by kernel_rfl) rfl
  have eg5 := enters_of Try.func91 (by kernel_rfl) rfl
  have eg6 := enters_of Try.func93 (by kernel_rfl) rfl
  clear hM ht hS hn hB hi hm9 hmc hm
  unfold TrV.val TrV.cells at *
  generalize l.getD i default = s at *
  unfold Enters at eg0 eg1 eg2 eg3 eg4 eg5 eg6
  go_enter Try.func51, Try.ntmps51
  go_upto_block 0 with fail
  change Blk (w.alloc (.cells #[.int .i64 t.days, .int .i64 t.shift, .int .i64 t.size, .slice t.A t.tw.length t.ca, .slice t.B t.lg.length t.cb] 33)) _ _ _ at hT hB1
  generalize (w.alloc (.cells #[.int .i64 t.days, .int .i64 t.shift, .int .i64 t.size, .slice t.A t.tw.length t.ca, .slice t.B t.lg.length t.cb] 33)) = W1 at *
  go_wp2
  go_loopw [13] (fun jj wr => ∃ j : Nat, jj = .int .i64 j ∧ j ≤ 7 ∧ Hid (FaUp t s j) ∧ Below W1.heap.size W1 wr) (fun jj _ => 7 - (intOf jj).toNat)
  case atStart => exact ⟨0, rfl, by omega, Lib.hid ⟨fun h => absurd h (by omega), fun h => absurd h (by omega), fun h => absurd h (by omega)⟩, Below.refl _ _⟩
  case round =>
    obtain ⟨j, rfl, hj, Hj, hb⟩ := hrel
    have hTr := hT.ext hb
    have hBr := hB1.ext hb
    have hTl := hTr.lt
    rcases (show j = 0 ∨ j = 1 ∨ j = 2 ∨ j = 3 ∨ j = 4 ∨ j = 5 ∨ j = 6 ∨ j = 7 by omega) with rfl | rfl | rfl | rfl | rfl | rfl | rfl | rfl
    · have r0 : wr.cell? ⟨B, 0, none⟩ = _ := hBr.cell (i := 0) rfl
      have r1 : wr.cell? ⟨B, 1, none⟩ = _ := hBr.cell (i := 1) rfl
      have b0 : wr.cell? ⟨w.heap.size, 0, none⟩ = _ := hTr.cell (i := 0) rfl
      have b1 : wr.cell? ⟨w.heap.size, 1, none⟩ = _ := hTr.cell (i := 1) rfl
      have b2 : wr.cell? ⟨w.heap.size, 2, none⟩ = _ := hTr.cell (i := 2) rfl
      have b3 : wr.cell? ⟨w.heap.size, 3, none⟩ = _ := hTr.cell (i := 3) rfl
      have b4 : wr.cell? ⟨w.heap.size, 4, none⟩ = _ := hTr.cell (i := 4) rfl
      have hxr := ext_alloc wr (.cells #[.int .u8 1, .func (.func 82) #[] #[]] 161)
      have hR := Blk.new wr 161 [.int .u8 1, .func (.func 82) #[] #[]]
      have hbx := ext_trans hb hxr
      go_wp2_with fail
      refine (D0.out _ (ext_trans hx hbx)).mono ?_; rintro e V1 ⟨q, rfl, hq, hb1⟩
      have hR1 := hR.ext hb1
      have hbf := ext_trans hbx hb1
      clear r0 r1 b0 b1 b2 b3 b4 hR hxr hb1 hbx
      cases q
      · go_wp2
        go_roundw
        case rel => exact ⟨1, rfl, by omega, Lib.hid ⟨fun _ => hq (by trivial), fun h => absurd h (by omega), fun h => absurd h (by omega)⟩, hbf⟩
        case measure => simp [intOf]
      · have r0 : V1.cell? ⟨wr.heap.size, 0, none⟩ = _ := hR1.cell (i := 0) rfl
        go_wp2
        go_ret
        exact ⟨⟨1, rfl, fun h => absurd h (by decide)⟩, ext_trans hx hbf⟩
    · have r0 : wr.cell? ⟨B, 2, none⟩ = _ := hBr.cell (i := 2) rfl
      have r1 : wr.cell? ⟨B, 3, none⟩ = _ := hBr.cell (i := 3) rfl
      have b0 : wr.cell? ⟨w.heap.size, 0, none⟩ = _ := hTr.cell (i := 0) rfl
      have b1 : wr.cell? ⟨w.heap.size, 1, none⟩ = _ := hTr.cell (i := 1) rfl
      have b2 : wr.cell? ⟨w.heap.size, 2, none⟩ = _ := hTr.cell (i := 2) rfl
      have b3 : wr.cell? ⟨w.heap.size, 3, none⟩ = _ := hTr.cell (i := 3) rfl
      have b4 : wr.cell? ⟨w.heap.size, 4, none⟩ = _ := hTr.cell (i := 4) rfl
      have hxr := ext_alloc wr (.cells #[.int .u8 2, .func (.func 83) #[] #[]] 161)
      have hR := Blk.new wr 161 [.int .u8 2, .func (.func 83) #[] #[]]
      have hbx := ext_trans hb hxr
      go_wp2_with fail
      refine (D1.out _ (ext_trans hx hbx) (Hj.out.1 (by omega))).mono ?_; rintro e V1 ⟨q, rfl, hq, hb1⟩
      have hR1 := hR.ext hb1
      have hbf := ext_trans hbx hb1
      clear r0 r1 b0 b1 b2 b3 b4 hR hxr hb1 hbx
      cases q
      · go_wp2
        go_roundw
        case rel => exact ⟨2, rfl, by omega, Lib.hid ⟨fun _ => Hj.out.1 (by omega), fun h => absurd h (by omega), fun h => absurd h (by omega)⟩, hbf⟩
        case measure => simp [intOf]
      · have r0 : V1.cell? ⟨wr.heap.size, 0, none⟩ = _ := hR1.cell (i := 0) rfl
        go_wp2
        go_ret
        exact ⟨⟨2, rfl, fun h => absurd h (by decide)⟩, ext_trans hx hbf⟩
    · have r0 : wr.cell? ⟨B, 4, none⟩ = _ := hBr.cell (i := 4) rfl
      have r1 : wr.cell? ⟨B, 5, none⟩ = _ := hBr.cell (i := 5) rfl
      have b0 : wr.cell? ⟨w.heap.size, 0, none⟩ = _ := hTr.cell (i := 0) rfl
      have b1 : wr.cell? ⟨w.heap.size, 1, none⟩ = _ := hTr.cell (i := 1) rfl
      have b2 : wr.cell? ⟨w.heap.size, 2, none⟩ = _ := hTr.cell (i := 2) rfl
      have b3 : wr.cell? ⟨w.heap.size, 3, none⟩ = _ := hTr.cell (i := 3) rfl
      have b4 : wr.cell? ⟨w.heap.size, 4, none⟩ = _ := hTr.cell (i := 4) rfl
      have hxr := ext_alloc wr (.cells #[.int .u8 3, .func (.func 84) #[] #[]] 161)
      have hR := Blk.new wr 161 [.int .u8 3, .func (.func 84) #[] #[]]
      have hbx := ext_trans hb hxr
      go_wp2_with fail
      refine (D2.out _ (ext_trans hx hbx) (Hj.out.1 (by omega))).mono ?_; rintro e V1 ⟨q, rfl, hq, hb1⟩
      have hR1 := hR.ext hb1
      have hbf := ext_trans hbx hb1
      clear r0 r1 b0 b1 b2 b3 b4 hR hxr hb1 hbx
      cases q
      · go_wp2
        go_roundw
        case rel => exact ⟨3, rfl, by omega, Lib.hid ⟨fun _ => Hj.out.1 (by omega), fun _ => hq (by trivial), fun h => absurd h (by omega)⟩, hbf⟩
        case measure => simp [intOf]
      · have r0 : V1.cell? ⟨wr.heap.size, 0, none⟩ = _ := hR1.cell (i := 0) rfl
        go_wp2
        go_ret
        exact ⟨⟨3, rfl, fun h => absurd h (by decide)⟩, ext_trans hx hbf⟩
    · have r0 : wr.cell? ⟨B, 6, none⟩ = _ := hBr.cell (i := 6) rfl
      have r1 : wr.cell? ⟨B, 7, none⟩ = _ := hBr.cell (i := 7) rfl
      have b0 : wr.cell? ⟨w.heap.size, 0, none⟩ = _ := hTr.cell (i := 0) rfl
      have b1 : wr.cell? ⟨w.heap.size, 1, none⟩ = _ := hTr.cell (i := 1) rfl
      have b2 : wr.cell? ⟨w.heap.size, 2, none⟩ = _ := hTr.cell (i := 2) rfl
      have b3 : wr.cell? ⟨w.heap.size, 3, none⟩ = _ := hTr.cell (i := 3) rfl
      have b4 : wr.cell? ⟨w.heap.size, 4, none⟩ = _ := hTr.cell (i := 4) rfl
      have hxr := ext_alloc wr (.cells #[.int .u8 4, .func (.func 86) #[] #[]] 161)
      have hR := Blk.new wr 161 [.int .u8 4, .func (.func 86) #[] #[]]
      have hbx := ext_trans hb hxr
      go_wp2_with fail
      refine (D3.out _ (ext_trans hx hbx) (Hj.out.1 (by omega))).mono ?_; rintro e V1 ⟨q, rfl, hq, hb1⟩
      have hR1 := hR.ext hb1
      have hbf := ext_trans hbx hb1
      clear r0 r1 b0 b1 b2 b3 b4 hR hxr hb1 hbx
      cases q
      · go_wp2
        go_roundw
        case rel => exact ⟨4, rfl, by omega, Lib.hid ⟨fun _ => Hj.out.1 (by omega), fun _ => Hj.out.2.1 (by omega), fun _ => hq (by trivial)⟩, hbf⟩
        case measure => simp [intOf]
      · have r0 : V1.cell? ⟨wr.heap.size, 0, none⟩ = _ := hR1.cell (i := 0) rfl
        go_wp2
        go_ret
        exact ⟨⟨4, rfl, fun h => absurd h (by decide)⟩, ext_trans hx hbf⟩
    · have r0 : wr.cell? ⟨B, 8, none⟩ = _ := hBr.cell (i := 8) rfl
      have r1 : wr.cell? ⟨B, 9, none⟩ = _ := hBr.cell (i := 9) rfl
      have b0 : wr.cell? ⟨w.heap.size, 0, none⟩ = _ := hTr.cell (i := 0) rfl
      have b1 : wr.cell? ⟨w.heap.size, 1, none⟩ = _ := hTr.cell (i := 1) rfl
      have b2 : wr.cell? ⟨w.heap.size, 2, none⟩ = _ := hTr.cell (i := 2) rfl
      have b3 : wr.cell? ⟨w.heap.size, 3, none⟩ = _ := hTr.cell (i := 3) rfl
      have b4 : wr.cell? ⟨w.heap.size, 4, none⟩ = _ := hTr.cell (i := 4) rfl
      have hxr := ext_alloc wr (.cells #[.int .u8 5, .func (.func 88) #[] #[]] 161)
      have hR := Blk.new wr 161 [.int .u8 5, .func (.func 88) #[] #[]]
      have hbx := ext_trans hb hxr
      go_wp2_with fail
      refine (D4.out _ (ext_trans hx hbx)).mono ?_; rintro e V1 ⟨q, rfl, hq, hb1⟩
      have hR1 := hR.ext hb1
      have hbf := ext_trans hbx hb1
      clear r0 r1 b0 b1 b2 b3 b4 hR hxr hb1 hbx
      cases q
      · go_wp2
        go_roundw
        case rel => exact ⟨5, rfl, by omega, Lib.hid ⟨fun _ => Hj.out.1 (by omega), fun _ => Hj.out.2.1 (by omega), fun _ => Hj.out.2.2 (by omega)⟩, hbf⟩
        case measure => simp [intOf]
      · have r0 : V1.cell? ⟨wr.heap.size, 0, none⟩ = _ := hR1.cell (i := 0) rfl
        go_wp2
        go_ret
        exact ⟨⟨5, rfl, fun h => absurd h (by decide)⟩, ext_trans hx hbf⟩
    · have r0 : wr.cell? ⟨B, 10, none⟩ = _ := hBr.cell (i := 10) rfl
      have r1 : wr.cell? ⟨B, 11, none⟩ = _ := hBr.cell (i := 11) rfl
      have b0 : wr.cell? ⟨w.heap.size, 0, none⟩ = _ := hTr.cell (i := 0) rfl
      have b1 : wr.cell? ⟨w.heap.size, 1, none⟩ = _ := hTr.cell (i := 1) rfl
      have b2 : wr.cell? ⟨w.heap.size, 2, none⟩ = _ := hTr.cell (i := 2) rfl
      have b3 : wr.cell? ⟨w.heap.size, 3, none⟩ = _ := hTr.cell (i := 3) rfl
      have b4 : wr.cell? ⟨w.heap.size, 4, none⟩ = _ := hTr.cell (i := 4) rfl
      have hxr := ext_alloc wr (.cells #[.int .u8 6, .func (.func 91) #[] #[]] 161)
      have hR := Blk.new wr 161 [.int .u8 6, .func (.func 91) #[] #[]]
      have hbx := ext_trans hb hxr
      go_wp2_with fail
      refine (D5.out _ (ext_trans hx hbx) (Hj.out.1 (by omega))).mono ?_; rintro e V1 ⟨q, rfl, hq, hb1⟩
      have hR1 := hR.ext hb1
      have hbf := ext_trans hbx hb1
      clear r0 r1 b0 b1 b2 b3 b4 hR hxr hb1 hbx
      cases q
      · go_wp2
        go_roundw
        case rel => exact ⟨6, rfl, by omega, Lib.hid ⟨fun _ => Hj.out.1 (by omega), fun _ => Hj.out.2.1 (by omega), fun _ => Hj.out.2.2 (by omega)⟩, hbf⟩
        case measure => simp [intOf]
      · have r0 : V1.cell? ⟨wr.heap.size, 0, none⟩ = _ := hR1.cell (i := 0) rfl
        go_wp2
        go_ret
        exact ⟨⟨6, rfl, fun h => absurd h (by decide)⟩, ext_trans hx hbf⟩
    · have r0 : wr.cell? ⟨B, 12, none⟩ = _ := hBr.cell (i := 12) rfl
      have r1 : wr.cell? ⟨B, 13, none⟩ = _ := hBr.cell (i := 13) rfl
      have b0 : wr.cell? ⟨w.heap.size, 0, none⟩ = _ := hTr.cell (i := 0) rfl
      have b1 : wr.cell? ⟨w.heap.size, 1, none⟩ = _ := hTr.cell (i := 1) rfl
      have b2 : wr.cell? ⟨w.heap.size, 2, none⟩ = _ := hTr.cell (i := 2) rfl
      have b3 : wr.cell? ⟨w.heap.size, 3, none⟩ = _ := hTr.cell (i := 3) rfl
      have b4 : wr.cell? ⟨w.heap.size, 4, none⟩ = _ := hTr.cell (i := 4) rfl
      have hxr := ext_alloc wr (.cells #[.int .u8 7, .func (.func 93) #[] #[]] 161)
      have hR := Blk.new wr 161 [.int .u8 7, .func (.func 93) #[] #[]]
      have hbx := ext_trans hb hxr
      go_wp2_with fail
      refine (D6.out _ (ext_trans hx hbx) (Hj.out.1 (by omega))).mono ?_; rintro e V1 ⟨q, rfl, hq, hb1⟩
      have hR1 := hR.ext hb1
      have hbf := ext_trans hbx hb1
      clear r0 r1 b0 b1 b2 b3 b4 hR hxr hb1 hbx
      cases q
      · go_wp2
        go_roundw
        case rel => exact ⟨7, rfl, by omega, Lib.hid ⟨fun _ => Hj.out.1 (by omega), fun _ => Hj.out.2.1 (by omega), fun _ => Hj.out.2.2 (by omega)⟩, hbf⟩
        case measure => simp [intOf]
      · have r0 : V1.cell? ⟨wr.heap.size, 0, none⟩ = _ := hR1.cell (i := 0) rfl
        go_wp2
        go_ret
        exact ⟨⟨7, rfl, fun h => absurd h (by decide)⟩, ext_trans hx hbf⟩
    · have HS := Lib.hid (show StopOk t s from by
        have h1 := Hj.out.1 (by omega)
        have h2 := Hj.out.2.1 (by omega)
        have h3 := Hj.out.2.2 (by omega)
        exact ⟨⟨h1.1, by have := h1.2; omega⟩, ⟨h3.1, h2.1⟩, h3.2, h2.2⟩)
      go_wp2
      go_ret
      exact ⟨⟨0, rfl, fun _ => HS.out⟩, ext_trans hx hb⟩
def encF (x : Int × Int) : List Value := [.int .i64 x.1, .int .u8 x.2]
theorem encF_len (x : Int × Int) : (encF x).length = 2 := rfl
theorem encF_one (x : Int × Int) : ∀ u ∈ encF x, u.oneCell' = true := by
  intro u hu
  simp [encF] at hu
  rcases hu with rfl | rfl <;> rfl
theorem et101 : ElemT Try.prog 101 135 2 16 := ElemT.mk (z := .agg #[.int .i64 0, .int .u8 0]) Try.underlying101 (by kernel_rfl) rfl
set_option maxRecDepth 100000 in
set_option maxHeartbeats 4000000 in
theorem faults_any (t : TrV) (l : List StE) (S : Option Addr) (m c : Nat) (w : World) (hM : TrM w t) (ht : TrOk t) (hS : Cells w S 3 StE.enc l) (hm : l.length = m) (hm9 : m ≤ 1000) (hmc : m ≤ c) (hn : ∀ s ∈ l, NearE s) :
    Calls Try.prog 27 #[t.val, .slice S m c] w fun e w' => (∃ A n c', e = .returned (.slice A n c') ∧ (n = 0 → SeasonOk t l)) ∧ Below w.heap.size w w' := by
  have hx := ext_alloc w (.cells t.cells.toArray 33)
  have hT := Blk.new w 33 t.cells
  have D := Lib.hid (fun V i B (hV : Below w.heap.size w V) (hi : i < m) (hB : Blk V B 161 tstL) => fault_any t l S m c i B V (hM.ext hV) ht (hS.ext hV) hm hi hm9 hmc (by rw [getD_at l (by omega)]; exact hn _ (List.getElem_mem _)) hB)
  have DT := Lib.hid (fun V => tests_any V)
  have Hm := Lib.hid hm
  clear hM ht hS hn hm hmc
  unfold TrV.val TrV.cells at *
  go_enter Try.func27, Try.ntmps27
  go_upto_block 0 with fail
  change Blk (w.alloc (.cells #[.int .i64 t.days, .int .i64 t.shift, .int .i64 t.size, .slice t.A t.tw.length t.ca, .slice t.B t.lg.length t.cb] 33)) _ _ _ at hT
  generalize (w.alloc (.cells #[.int .i64 t.days, .int .i64 t.shift, .int .i64 t.size, .slice t.A t.tw.length t.ca, .slice t.B t.lg.length t.cb] 33)) = W1 at *
  go_wp2
  go_loopw [5, 10] (fun v ii wr => ∃ (i : Nat) (fl : List (Int × Int)), ii = .int .i64 i ∧ i ≤ m ∧ fl.length ≤ i ∧ Hid (fl = [] → ∀ j, j < i → StopOk t (l.getD j default)) ∧ OwnL wr W1.heap.size 135 2 encF v fl ∧ Below W1.heap.size W1 wr) (fun _ ii _ => m - (intOf ii).toNat)
  case atStart => exact ⟨0, [], rfl, by omega, by simp, Lib.hid (fun _ j hj => by omega), OwnL.nil, Below.refl _ _⟩
  case round =>
    obtain ⟨i, fl, rfl, hi, hfl, Hi, ho, hb⟩ := hrel
    by_cases hlt : i < m
    · have him : (i : Int) < (m : Int) := by omega
      have hi0 : (0 : Int) ≤ (i : Int) := by omega
      go_upto_region 5 with fail
      refine Dr.wp_region_plan 6 [] (.q [0, 1, 2] (.e1 3 (.e1 4 (.q [5] .done)))) (by kernel_rfl) (by kernel_rfl) ?_
      have hbd := hb.drew
      have hod := ho.drew
      have hTd := (hT.ext hb).drew
      clear hb ho
      generalize World.drew wr = V at *
      have q0 := Dr.cell0 (hTd.cell (i := 0) rfl)
      have q1 := Dr.cell0 (hTd.cell (i := 1) rfl)
      have q2 := Dr.cell0 (hTd.cell (i := 2) rfl)
      have q3 := Dr.cell0 (hTd.cell (i := 3) rfl)
      have q4 := Dr.cell0 (hTd.cell (i := 4) rfl)
      with_reducible refine Dr.plan_q (l := [_, _, _]) (by with_unfolding_all exact rfl) (fun K hK => ?_)
      iterate 3 (go_big_quiet_step (fail))
      refine wpQuiet_nil (hK _ ?_); clear hK K
      clear q0 q1 q2 q3 q4
      refine Dr.plan_e rfl (by rfl) (fun K hK => ?_)
      go_wp2_with fail
      refine (DT.out _).mono ?_; rintro e V1 ⟨⟨B, rfl, hB⟩, hb1⟩
      refine hK _ _ (.of hb1) ?_; clear hK K
      have hbv := ext_trans hbd hb1
      have hov := hod.ext hb1
      refine Dr.plan_e rfl (by rfl) (fun K hK => ?_)
      go_wp2_with fail
      refine (D.out _ i B (ext_trans hx hbv) hlt hB).mono ?_; rintro e V2 ⟨⟨k, rfl, hk⟩, hb2⟩
      refine hK _ _ (.of hb2) ?_; clear hK K
      have hbz := ext_trans hbv hb2
      have hoz := hov.ext hb2
      have Hk := Lib.hid hk
      clear hbd hb1 hbv hov hod hb2 hB hk hTd
      with_reducible refine Dr.plan_q (l := [_]) (by with_unfolding_all exact rfl) (fun K hK => ?_)
      iterate 1 (go_big_quiet_step (fail))
      refine wpQuiet_nil (hK _ ?_); clear hK K
      refine Dr.plan_end rfl ?_
      try go_frame
      by_cases hk0 : k = 0
      · subst hk0
        have HS := Lib.hid (Hk.out rfl)
        go_wp2
        go_roundw
        case rel => exact ⟨i + 1, fl, by go_num, by omega, by omega, Lib.hid (fun h j hj => by
          by_cases e : j = i
          · rw [e]; exact HS.out
          · exact Hi.out h j (by omega)), hoz, hbz⟩
        case measure => simp [intOf]; omega
      · have hk1 : (k != 0) = true := by rw [bne_iff_ne]; exact hk0
        have hxn := ext_alloc V2 (.cells #[.int .i64 (i : Int), .int .u8 k] 135)
        have nw := Blk.new V2 135 [.int .i64 (i : Int), .int .u8 k]
        have hbn := hbz.trans (hxn.mono hbz.size)
        have hsz := hbz.size
        go_wp2_with (at_builtin; refine app1 encF 101 135 2 16 et101 (by decide) (by decide) encF_len encF_one rfl _ _ rfl W1.heap.size _ fl rfl (hoz.alloc _) V2.heap.size rfl ((i : Int), k) (fun j u hj => nw.cell hj) (by omega) (by simp; omega) ?_; intro g' cap' w' hown' hb3 _ _)
        have Hown := Lib.hid hown'
        have hb4 := hbn.trans hb3
        clear hb3 nw hown' hoz
        go_roundw
        case rel => exact ⟨i + 1, fl ++ [((i : Int), k)], by go_num, by omega, by simp; omega, Lib.hid (fun h => by simp at h), by simpa using Hown.out, hb4⟩
        case measure => simp [intOf]; omega
    · obtain rfl : i = m := by omega
      have HR := Lib.hid (show fl.length = 0 → SeasonOk t l from fun h s hs => by
        obtain ⟨j, hj, rfl⟩ := List.mem_iff_getElem.1 hs
        have := Hi.out (List.length_eq_zero_iff.1 h) j (by rw [← Hm.out]; exact hj)
        rwa [getD_at l hj] at this)
      obtain ⟨A, c', rfl, -⟩ := ho.cells encF_len
      clear Hi
      go_wp2
      go_ret
      exact ⟨⟨A, fl.length, c', rfl, HR.out⟩, ext_trans hx hb⟩
end Go.Proofs.Ytilkoooahoecfaa.Er

/- Walk: acts for the program; an act of a ledger that may be wrong. -/
import Derived.Test.YtnjdlhhgnamigaaGreatLedR
import Derived.Test.YtnjdlhhgnamigaaGreatTooA
namespace Go.Pu
def doF (l : Led) (a : Act) : Led × Int := if l.okB then doL l a else (Led.zero, 1)
end Go.Pu
namespace Go.Proofs.YtnjdlhhgnamigaaGreat
open Go.RowKit Go.Bs Go.Pu Go.Pl Go.Sort
theorem et97 : ElemT Tryz.prog 40 51 6 48 := ElemT.mk (z := .agg #[.int .u8 0, .int .i64 0, .int .i64 0, .int .i64 0, .int .i64 0, .int .i64 0]) Tryz.underlying40 (by kernel_rfl) rfl
theorem Act_any (a : Pu.Act) (w : World) : Calls Tryz.prog 16 #[Act.val a] w fun r w' => r = .returned (Act.val a) ∧ Below w.heap.size w w' := by
  obtain ⟨a0, a1, a2, a3, a4, a5⟩ := a
  unfold Act.val
  go_enter Tryz.func16, Tryz.ntmps16
  go_wp2
  refine bodyPost_ret (v := .agg #[.int .u8 a0, .int .i64 a1, .int .i64 a2, .int .i64 a3, .int .i64 a4, .int .i64 a5]) (by simp [results, Tryz.results16, go_sem]) rfl ?_
  exact ⟨rfl, ext_trans (ext_alloc _ _) (ext_alloc _ _)⟩
set_option maxRecDepth 100000 in
set_option maxHeartbeats 2000000 in
theorem Acts_any (acts : List Pu.Act) (Z : Option Addr) (k kc : Nat) (w : World) (hk : acts.length = k) (h9 : k ≤ 100000) (hZ : Cells w Z 6 Act.enc acts) :
    Calls Tryz.prog 10 #[.slice Z k kc] w fun r w' => ∃ v, r = .returned v ∧ FreshL w w' 6 Act.enc v acts ∧ Below w.heap.size w w' := by
  have CA := Lib.hid (fun a0 a1 a2 a3 a4 a5 W => (show Calls Tryz.prog 16 #[.agg #[.int .u8 a0, .int .i64 a1, .int .i64 a2, .int .i64 a3, .int .i64 a4, .int .i64 a5]] W fun r w' => r = .returned (.agg #[.int .u8 a0, .int .i64 a1, .int .i64 a2, .int .i64 a3, .int .i64 a4, .int .i64 a5]) ∧ Below W.heap.size W w' from Act_any ⟨a0, a1, a2, a3, a4, a5⟩ W))
  have Hk := Lib.hid hk
  clear hk
  go_enter Tryz.func10, Tryz.ntmps10
  go_wp2
  go_loopw [3, 4] (fun v x wr => ∃ j : Nat, x = .int .i64 j ∧ j ≤ k ∧ OwnL wr w.heap.size 51 6 Act.enc v (acts.take j) ∧ Below w.heap.size w wr) (fun _ x _ => k - (intOf x).toNat)
  case atStart => exact ⟨0, rfl, by omega, OwnL.nil, Below.refl _ _⟩
  case round =>
    obtain ⟨j, rfl, hj, hown, hb⟩ := hrel
    by_cases hlt : j < k
    · have hlt' : (j : Int) < (k : Int) := by omega
      have hjl : j < acts.length := by rw [Hk.out]; exact hlt
      obtain ⟨b, off, rfl, -, c0, c1, c2, c3, c4, c5⟩ := (hZ.ext hb).at6 hjl rfl
      have Ht := Lib.hid (List.take_succ_eq_append_getElem hjl)
      have htl : (acts.take j).length = j := by rw [List.length_take]; omega
      generalize acts[j] = x at *
      obtain ⟨a0, a1, a2, a3, a4, a5⟩ := x
      simp only at c0 c1 c2 c3 c4 c5
      have Htl := Lib.hid htl
      clear htl hjl
      go_wp2_with fail
      refine (CA.out _ _ _ _ _ _ _).mono ?_; rintro r W2 ⟨rfl, hb2⟩
      have ho2 := hown.ext hb2
      have hs2 := hb2.size
      have hbb := ext_trans hb hb2
      clear hown hb hb2 c0 c1 c2 c3 c4 c5
      go_wp2_with (at_builtin; refine app1 Act.enc 40 51 6 48 et97 (by decide) (by decide) act_len act_one rfl _ _ rfl w.heap.size _ (acts.take j) rfl (ho2.alloc _) W2.heap.size rfl ⟨a0, a1, a2, a3, a4, a5⟩ new_cell (by rw [Htl.out]; omega) (by have := hbb.size; simp; omega) ?_; intro g' cap' w' hown' hb3 _ _)
      rw [← Ht.out] at hown'
      have hb4 := ext_trans hbb ((ext_alloc W2 (.cells #[.int .u8 a0, .int .i64 a1, .int .i64 a2, .int .i64 a3, .int .i64 a4, .int .i64 a5] 51)))
      have hb5 := hb4.trans hb3
      go_roundw
      case rel => exact ⟨j + 1, by go_num, by omega, by simpa using hown', hb5⟩
      case measure => simp [intOf]; omega
    · obtain rfl : j = k := by omega
      rw [List.take_of_length_le (by rw [Hk.out]; omega)] at hown
      go_wp2
      go_ret
      exact ⟨_, rfl, FreshL.of_own hown act_len (Nat.le_refl _), hb⟩
set_option maxRecDepth 100000 in
set_option maxHeartbeats 4000000 in
theorem Do_any (l : Led) (a : Pu.Act) (A : Option Addr) (n c : Nat) (B : Option Addr) (m d : Nat) (D : Option Addr) (q e : Nat) (w : World) (hL : LedM w l A n B m D q) :
    Calls Tryz.prog 15 #[ledV A n c B m d l.office l.bank l.begun l.inn l.out D q e, Act.val a] w fun r w' => ∃ v, r = .returned (.tuple #[v, .int .i64 (doF l a).2]) ∧ LedFr w w' v (doF l a).1 ∧ Below w.heap.size w w' := by
  have hb0 : Below w.heap.size w (((w.alloc (.cells #[.slice A n c, .slice B m d, .int .i64 l.office, .int .i64 l.bank, .int .i64 l.begun, .int .i64 l.inn, .int .i64 l.out, .slice D q e] 34)).alloc (.cells #[.int .u8 a.kind, .int .i64 a.window, .int .i64 a.bag, .int .i64 a.sl, .int .i64 a.amount, .int .i64 a.written] 51)).alloc (.cells #[.slice none 0 0, .slice none 0 0, .int .i64 0, .int .i64 0, .int .i64 0, .int .i64 0, .int .i64 0, .slice none 0 0] 34)) := ((((Below.refl _ _).alloc (Nat.le_refl _) _).alloc (by simp) _).alloc (by simp; omega) _)
  have hX := ((Blk.new w 34 [.slice A n c, .slice B m d, .int .i64 l.office, .int .i64 l.bank, .int .i64 l.begun, .int .i64 l.inn, .int .i64 l.out, .slice D q e]).alloc (.cells #[.int .u8 a.kind, .int .i64 a.window, .int .i64 a.bag, .int .i64 a.sl, .int .i64 a.amount, .int .i64 a.written] 51)).alloc (.cells #[.slice none 0 0, .slice none 0 0, .int .i64 0, .int .i64 0, .int .i64 0, .int .i64 0, .int .i64 0, .slice none 0 0] 34)
  have hY := (Blk.new (w.alloc (.cells #[.slice A n c, .slice B m d, .int .i64 l.office, .int .i64 l.bank, .int .i64 l.begun, .int .i64 l.inn, .int .i64 l.out, .slice D q e] 34)) 51 [.int .u8 a.kind, .int .i64 a.window, .int .i64 a.bag, .int .i64 a.sl, .int .i64 a.amount, .int .i64 a.written]).alloc (.cells #[.slice none 0 0, .slice none 0 0, .int .i64 0, .int .i64 0, .int .i64 0, .int .i64 0, .int .i64 0, .slice none 0 0] 34)
  have hR := Blk.new ((w.alloc (.cells #[.slice A n c, .slice B m d, .int .i64 l.office, .int .i64 l.bank, .int .i64 l.begun, .int .i64 l.inn, .int .i64 l.out, .slice D q e] 34)).alloc (.cells #[.int .u8 a.kind, .int .i64 a.window, .int .i64 a.bag, .int .i64 a.sl, .int .i64 a.amount, .int .i64 a.written] 51)) 34 [.slice none 0 0, .slice none 0 0, .int .i64 0, .int .i64 0, .int .i64 0, .int .i64 0, .int .i64 0, .slice none 0 0]
  have hsz : (((w.alloc (.cells #[.slice A n c, .slice B m d, .int .i64 l.office, .int .i64 l.bank, .int .i64 l.begun, .int .i64 l.inn, .int .i64 l.out, .slice D q e] 34)).alloc (.cells #[.int .u8 a.kind, .int .i64 a.window, .int .i64 a.bag, .int .i64 a.sl, .int .i64 a.amount, .int .i64 a.written] 51)).alloc (.cells #[.slice none 0 0, .slice none 0 0, .int .i64 0, .int .i64 0, .int .i64 0, .int .i64 0, .int .i64 0, .slice none 0 0] 34)).heap.size = w.heap.size + 3 := by simp
  simp only [World.size_alloc] at hY hR
  have hL0 := hL.ext hb0
  have CV := Lib.hid (fun W h => lvalid_any l A n c B m d D q e W h)
  have CD := Lib.hid (fun W h h2 h3 => do_any l a A n c B m d D q e W h h2 h3)
  have Hok := Lib.hid (show l.okB = true → _ from fun h => ok_mon h)
  have Hdt := Lib.hid (show doF l a = if l.okB then doL l a else (Led.zero, 1) from rfl)
  generalize doF l a = res at *
  unfold ledV Act.val at *
  clear hL
  go_enter Tryz.func15, Tryz.ntmps15
  go_upto_region 1 with fail
  change Blk (((w.alloc (.cells #[.slice A n c, .slice B m d, .int .i64 l.office, .int .i64 l.bank, .int .i64 l.begun, .int .i64 l.inn, .int .i64 l.out, .slice D q e] 34)).alloc (.cells #[.int .u8 a.kind, .int .i64 a.window, .int .i64 a.bag, .int .i64 a.sl, .int .i64 a.amount, .int .i64 a.written] 51)).alloc (.cells #[.slice none 0 0, .slice none 0 0, .int .i64 0, .int .i64 0, .int .i64 0, .int .i64 0, .int .i64 0, .slice none 0 0] 34)) _ _ _ at hX
  change Blk (((w.alloc (.cells #[.slice A n c, .slice B m d, .int .i64 l.office, .int .i64 l.bank, .int .i64 l.begun, .int .i64 l.inn, .int .i64 l.out, .slice D q e] 34)).alloc (.cells #[.int .u8 a.kind, .int .i64 a.window, .int .i64 a.bag, .int .i64 a.sl, .int .i64 a.amount, .int .i64 a.written] 51)).alloc (.cells #[.slice none 0 0, .slice none 0 0, .int .i64 0, .int .i64 0, .int .i64 0, .int .i64 0, .int .i64 0, .slice none 0 0] 34)) _ _ _ at hY
  change Blk (((w.alloc (.cells #[.slice A n c, .slice B m d, .int .i64 l.office, .int .i64 l.bank, .int .i64 l.begun, .int .i64 l.inn, .int .i64 l.out, .slice D q e] 34)).alloc (.cells #[.int .u8 a.kind, .int .i64 a.window, .int .i64 a.bag, .int .i64 a.sl, .int .i64 a.amount, .int .i64 a.written] 51)).alloc (.cells #[.slice none 0 0, .slice none 0 0, .int .i64 0, .int .i64 0, .int .i64 0, .int .i64 0, .int .i64 0, .slice none 0 0] 34)) _ _ _ at hR
  change Below w.heap.size w (((w.alloc (.cells #[.slice A n c, .slice B m d, .int .i64 l.office, .int .i64 l.bank, .int .i64 l.begun, .int .i64 l.inn, .int .i64 l.out, .slice D q e] 34)).alloc (.cells #[.int .u8 a.kind, .int .i64 a.window, .int .i64 a.bag, .int .i64 a.sl, .int .i64 a.amount, .int .i64 a.written] 51)).alloc (.cells #[.slice none 0 0, .slice none 0 0, .int .i64 0, .int .i64 0, .int .i64 0, .int .i64 0, .int .i64 0, .slice none 0 0] 34)) at hb0
  change (((w.alloc (.cells #[.slice A n c, .slice B m d, .int .i64 l.office, .int .i64 l.bank, .int .i64 l.begun, .int .i64 l.inn, .int .i64 l.out, .slice D q e] 34)).alloc (.cells #[.int .u8 a.kind, .int .i64 a.window, .int .i64 a.bag, .int .i64 a.sl, .int .i64 a.amount, .int .i64 a.written] 51)).alloc (.cells #[.slice none 0 0, .slice none 0 0, .int .i64 0, .int .i64 0, .int .i64 0, .int .i64 0, .int .i64 0, .slice none 0 0] 34)).heap.size = _ at hsz
  change LedM (((w.alloc (.cells #[.slice A n c, .slice B m d, .int .i64 l.office, .int .i64 l.bank, .int .i64 l.begun, .int .i64 l.inn, .int .i64 l.out, .slice D q e] 34)).alloc (.cells #[.int .u8 a.kind, .int .i64 a.window, .int .i64 a.bag, .int .i64 a.sl, .int .i64 a.amount, .int .i64 a.written] 51)).alloc (.cells #[.slice none 0 0, .slice none 0 0, .int .i64 0, .int .i64 0, .int .i64 0, .int .i64 0, .int .i64 0, .slice none 0 0] 34)) _ _ _ _ _ _ _ at hL0
  generalize (((w.alloc (.cells #[.slice A n c, .slice B m d, .int .i64 l.office, .int .i64 l.bank, .int .i64 l.begun, .int .i64 l.inn, .int .i64 l.out, .slice D q e] 34)).alloc (.cells #[.int .u8 a.kind, .int .i64 a.window, .int .i64 a.bag, .int .i64 a.sl, .int .i64 a.amount, .int .i64 a.written] 51)).alloc (.cells #[.slice none 0 0, .slice none 0 0, .int .i64 0, .int .i64 0, .int .i64 0, .int .i64 0, .int .i64 0, .slice none 0 0] 34)) = W0 at *
  have x0 : W0.cell? ⟨w.heap.size, 0, none⟩ = _ := hX.cell (i := 0) rfl
  have x1 : W0.cell? ⟨w.heap.size, 1, none⟩ = _ := hX.cell (i := 1) rfl
  have x2 : W0.cell? ⟨w.heap.size, 2, none⟩ = _ := hX.cell (i := 2) rfl
  have x3 : W0.cell? ⟨w.heap.size, 3, none⟩ = _ := hX.cell (i := 3) rfl
  have x4 : W0.cell? ⟨w.heap.size, 4, none⟩ = _ := hX.cell (i := 4) rfl
  have x5 : W0.cell? ⟨w.heap.size, 5, none⟩ = _ := hX.cell (i := 5) rfl
  have x6 : W0.cell? ⟨w.heap.size, 6, none⟩ = _ := hX.cell (i := 6) rfl
  have x7 : W0.cell? ⟨w.heap.size, 7, none⟩ = _ := hX.cell (i := 7) rfl
  go_wp2_with fail
  refine (CV.out _ hL0).mono ?_; rintro r W1 ⟨rfl, hb1⟩
  have hbw1 := ext_trans hb0 hb1
  have hX1 := hX.ext hb1
  have hY1 := hY.ext hb1
  have hR1 := hR.ext hb1
  have hL1 := hL0.ext hb1
  have hs1 := hb1.size
  clear hX hY hR hL0 hb0 hb1 x0 x1 x2 x3 x4 x5 x6 x7 CV
  cases hok : l.okB
  · have hr : res = (Led.zero, 1) := by rw [Hdt.out, hok]; rfl
    subst hr
    have y0 : W1.cell? ⟨w.heap.size + 2, 0, none⟩ = _ := hR1.cell (i := 0) rfl
    have y1 : W1.cell? ⟨w.heap.size + 2, 1, none⟩ = _ := hR1.cell (i := 1) rfl
    have y2 : W1.cell? ⟨w.heap.size + 2, 2, none⟩ = _ := hR1.cell (i := 2) rfl
    have y3 : W1.cell? ⟨w.heap.size + 2, 3, none⟩ = _ := hR1.cell (i := 3) rfl
    have y4 : W1.cell? ⟨w.heap.size + 2, 4, none⟩ = _ := hR1.cell (i := 4) rfl
    have y5 : W1.cell? ⟨w.heap.size + 2, 5, none⟩ = _ := hR1.cell (i := 5) rfl
    have y6 : W1.cell? ⟨w.heap.size + 2, 6, none⟩ = _ := hR1.cell (i := 6) rfl
    have y7 : W1.cell? ⟨w.heap.size + 2, 7, none⟩ = _ := hR1.cell (i := 7) rfl
    have f0 := hR1.free 0
    have f1 := hR1.free 1
    have f2 := hR1.free 2
    have f3 := hR1.free 3
    have f4 := hR1.free 4
    have f5 := hR1.free 5
    have f6 := hR1.free 6
    have f7 := hR1.free 7
    go_wp2
    generalize hWf : World.setCell _ _ (Value.slice none 0 0) = Wf
    have hRf := hR1.put_eq [.slice none 0 0, .slice none 0 0, .int .i64 0, .int .i64 0, .int .i64 0, .int .i64 0, .int .i64 0, .slice none 0 0] hWf rfl
    have hbf : Dr.Bel [w.heap.size + 2] W1 Wf := bel_put_eq [.slice none 0 0, .slice none 0 0, .int .i64 0, .int .i64 0, .int .i64 0, .int .i64 0, .int .i64 0, .slice none 0 0] hWf
    clear hWf y0 y1 y2 y3 y4 y5 y6 y7 f0 f1 f2 f3 f4 f5 f6 f7
    have z0 : Wf.cell? ⟨w.heap.size + 2, 0, none⟩ = _ := hRf.cell (i := 0) rfl
    have z1 : Wf.cell? ⟨w.heap.size + 2, 1, none⟩ = _ := hRf.cell (i := 1) rfl
    have z2 : Wf.cell? ⟨w.heap.size + 2, 2, none⟩ = _ := hRf.cell (i := 2) rfl
    have z3 : Wf.cell? ⟨w.heap.size + 2, 3, none⟩ = _ := hRf.cell (i := 3) rfl
    have z4 : Wf.cell? ⟨w.heap.size + 2, 4, none⟩ = _ := hRf.cell (i := 4) rfl
    have z5 : Wf.cell? ⟨w.heap.size + 2, 5, none⟩ = _ := hRf.cell (i := 5) rfl
    have z6 : Wf.cell? ⟨w.heap.size + 2, 6, none⟩ = _ := hRf.cell (i := 6) rfl
    have z7 : Wf.cell? ⟨w.heap.size + 2, 7, none⟩ = _ := hRf.cell (i := 7) rfl
    refine bodyPost_ret (v := .tuple #[.agg #[.slice none 0 0, .slice none 0 0, .int .i64 0, .int .i64 0, .int .i64 0, .int .i64 0, .int .i64 0, .slice none 0 0], .int .i64 1]) (by simp [results, Tryz.results15, go_sem, z0, z1, z2, z3, z4, z5, z6, z7]) rfl ?_
    exact ⟨_, rfl, lz_fr _ _, hbw1.trans (hbf.old (by omega) (by simp))⟩
  · have hr : res = doL l a := by rw [Hdt.out, hok]; rfl
    rw [← hr] at CD
    obtain ⟨bl, code⟩ := res
    clear hr Hdt
    obtain ⟨hmon, hq9, -, -⟩ := Hok.out hok
    rw [hL1.hq] at hq9
    have x0 : W1.cell? ⟨w.heap.size, 0, none⟩ = _ := hX1.cell (i := 0) rfl
    have x1 : W1.cell? ⟨w.heap.size, 1, none⟩ = _ := hX1.cell (i := 1) rfl
    have x2 : W1.cell? ⟨w.heap.size, 2, none⟩ = _ := hX1.cell (i := 2) rfl
    have x3 : W1.cell? ⟨w.heap.size, 3, none⟩ = _ := hX1.cell (i := 3) rfl
    have x4 : W1.cell? ⟨w.heap.size, 4, none⟩ = _ := hX1.cell (i := 4) rfl
    have x5 : W1.cell? ⟨w.heap.size, 5, none⟩ = _ := hX1.cell (i := 5) rfl
    have x6 : W1.cell? ⟨w.heap.size, 6, none⟩ = _ := hX1.cell (i := 6) rfl
    have x7 : W1.cell? ⟨w.heap.size, 7, none⟩ = _ := hX1.cell (i := 7) rfl
    have y0 : W1.cell? ⟨w.heap.size + 1, 0, none⟩ = _ := hY1.cell (i := 0) rfl
    have y1 : W1.cell? ⟨w.heap.size + 1, 1, none⟩ = _ := hY1.cell (i := 1) rfl
    have y2 : W1.cell? ⟨w.heap.size + 1, 2, none⟩ = _ := hY1.cell (i := 2) rfl
    have y3 : W1.cell? ⟨w.heap.size + 1, 3, none⟩ = _ := hY1.cell (i := 3) rfl
    have y4 : W1.cell? ⟨w.heap.size + 1, 4, none⟩ = _ := hY1.cell (i := 4) rfl
    have y5 : W1.cell? ⟨w.heap.size + 1, 5, none⟩ = _ := hY1.cell (i := 5) rfl
    go_wp2_with fail
    refine (CD.out _ hL1 hmon (by omega)).mono ?_; rintro r W2 ⟨v2, rfl, ⟨A3, n3, c3, B3, m3, d3, D3, q3, e3, rfl, L3⟩, hb2⟩
    unfold ledV
    have hbw2 := ext_trans hbw1 hb2
    have hR2 := hR1.ext hb2
    have hs2 := hb2.size
    clear x0 x1 x2 x3 x4 x5 x6 x7 y0 y1 y2 y3 y4 y5 CD hmon hq9 hX1 hY1 hR1 hL1
    have y0 : W2.cell? ⟨w.heap.size + 2, 0, none⟩ = _ := hR2.cell (i := 0) rfl
    have y1 : W2.cell? ⟨w.heap.size + 2, 1, none⟩ = _ := hR2.cell (i := 1) rfl
    have y2 : W2.cell? ⟨w.heap.size + 2, 2, none⟩ = _ := hR2.cell (i := 2) rfl
    have y3 : W2.cell? ⟨w.heap.size + 2, 3, none⟩ = _ := hR2.cell (i := 3) rfl
    have y4 : W2.cell? ⟨w.heap.size + 2, 4, none⟩ = _ := hR2.cell (i := 4) rfl
    have y5 : W2.cell? ⟨w.heap.size + 2, 5, none⟩ = _ := hR2.cell (i := 5) rfl
    have y6 : W2.cell? ⟨w.heap.size + 2, 6, none⟩ = _ := hR2.cell (i := 6) rfl
    have y7 : W2.cell? ⟨w.heap.size + 2, 7, none⟩ = _ := hR2.cell (i := 7) rfl
    have f0 := hR2.free 0
    have f1 := hR2.free 1
    have f2 := hR2.free 2
    have f3 := hR2.free 3
    have f4 := hR2.free 4
    have f5 := hR2.free 5
    have f6 := hR2.free 6
    have f7 := hR2.free 7
    have L4 := L3.older (a := w) (by omega)
    go_wp2
    generalize hWf : World.setCell _ _ (Value.slice D3 q3 e3) = Wf
    have hRf := hR2.put_eq [.slice A3 n3 c3, .slice B3 m3 d3, .int .i64 bl.office, .int .i64 bl.bank, .int .i64 bl.begun, .int .i64 bl.inn, .int .i64 bl.out, .slice D3 q3 e3] hWf rfl
    have hbf : Dr.Bel [w.heap.size + 2] W2 Wf := bel_put_eq [.slice A3 n3 c3, .slice B3 m3 d3, .int .i64 bl.office, .int .i64 bl.bank, .int .i64 bl.begun, .int .i64 bl.inn, .int .i64 bl.out, .slice D3 q3 e3] hWf
    clear hWf y0 y1 y2 y3 y4 y5 y6 y7 f0 f1 f2 f3 f4 f5 f6 f7
    have z0 : Wf.cell? ⟨w.heap.size + 2, 0, none⟩ = _ := hRf.cell (i := 0) rfl
    have z1 : Wf.cell? ⟨w.heap.size + 2, 1, none⟩ = _ := hRf.cell (i := 1) rfl
    have z2 : Wf.cell? ⟨w.heap.size + 2, 2, none⟩ = _ := hRf.cell (i := 2) rfl
    have z3 : Wf.cell? ⟨w.heap.size + 2, 3, none⟩ = _ := hRf.cell (i := 3) rfl
    have z4 : Wf.cell? ⟨w.heap.size + 2, 4, none⟩ = _ := hRf.cell (i := 4) rfl
    have z5 : Wf.cell? ⟨w.heap.size + 2, 5, none⟩ = _ := hRf.cell (i := 5) rfl
    have z6 : Wf.cell? ⟨w.heap.size + 2, 6, none⟩ = _ := hRf.cell (i := 6) rfl
    have z7 : Wf.cell? ⟨w.heap.size + 2, 7, none⟩ = _ := hRf.cell (i := 7) rfl
    refine bodyPost_ret (v := .tuple #[.agg #[.slice A3 n3 c3, .slice B3 m3 d3, .int .i64 bl.office, .int .i64 bl.bank, .int .i64 bl.begun, .int .i64 bl.inn, .int .i64 bl.out, .slice D3 q3 e3], .int .i64 code]) (by simp [results, Tryz.results15, go_sem, z0, z1, z2, z3, z4, z5, z6, z7]) rfl ?_
    exact ⟨_, rfl, ⟨A3, n3, c3, B3, m3, d3, D3, q3, e3, rfl, (L3.bel hbf (by simp; omega)).older (a := w) (by omega)⟩, hbw2.trans (hbf.old (by omega) (by simp))⟩
end Go.Proofs.YtnjdlhhgnamigaaGreat

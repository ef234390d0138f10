/- Walk: Settle. -/
import Derived.Test.YtilkoooahoecfaaSetD
import Derived.Test.YtilkoooahoecfaaSetQ
import Derived.Test.YtilkoooahoecfaaTooA
namespace Go.Proofs.Ytilkoooahoecfaa
open Go.RowKit Go.Bs Go.Pu Go.Pl Go.Sort

def pzV : Value := .agg #[.slice none 0 0, .slice none 0 0, .int .i64 0, .int .i64 0, .slice none 0 0, .slice none 0 0, .slice none 0 0, .int .i64 0]
theorem settle_bad (wk : Wk) (A B : Option Addr) (n c m d : Nat) (w : World) (hn : wk.ctys.length = n) (hm : wk.ctrs.length = m) (h1 : n ≤ 1000000) (h2 : m ≤ 1000000) (hA : Cells w A 4 Cty.enc wk.ctys) (hB : Cells w B 3 Ctr.enc wk.ctrs) (hok : wk.okB = false) :
    Calls Try.prog 13 #[wkV A n c wk.premium B m d] w fun e w' => e = .returned (.tuple #[pzV, .int .i64 1]) ∧ Below w.heap.size w w' := by
  have hb0 := (ext_alloc w (.cells #[.slice A n c, .int .i64 wk.premium, .slice B m d] 45)).trans ((ext_alloc _ (.cells #[.slice none 0 0, .slice none 0 0, .int .i64 0, .int .i64 0, .slice none 0 0, .slice none 0 0, .slice none 0 0, .int .i64 0] 61)).mono (by simp))
  have hX := (Blk.new w 45 [.slice A n c, .int .i64 wk.premium, .slice B m d]).alloc (.cells #[.slice none 0 0, .slice none 0 0, .int .i64 0, .int .i64 0, .slice none 0 0, .slice none 0 0, .slice none 0 0, .int .i64 0] 61)
  have hY := Blk.new (w.alloc (.cells #[.slice A n c, .int .i64 wk.premium, .slice B m d] 45)) 61 [.slice none 0 0, .slice none 0 0, .int .i64 0, .int .i64 0, .slice none 0 0, .slice none 0 0, .slice none 0 0, .int .i64 0]
  rw [World.size_alloc] at hY
  have C1 := Lib.hid (fun W (hb : Below w.heap.size w W) => wvalid_any wk A B n c m d W hn hm h1 h2 (hA.ext hb) (hB.ext hb))
  unfold wkV at C1 ⊢
  rw [hok] at C1
  generalize wk.premium = prem at *
  clear hA hB hn hm hok wk
  go_enter Try.func13, Try.ntmps13
  go_upto_region 1 with fail
  change Blk ((w.alloc (.cells #[.slice A n c, .int .i64 prem, .slice B m d] 45)).alloc (.cells #[.slice none 0 0, .slice none 0 0, .int .i64 0, .int .i64 0, .slice none 0 0, .slice none 0 0, .slice none 0 0, .int .i64 0] 61)) (w.heap.size + 1) 61 _ at hY
  generalize (w.alloc (.cells #[.slice A n c, .int .i64 prem, .slice B m d] 45)).alloc (.cells #[.slice none 0 0, .slice none 0 0, .int .i64 0, .int .i64 0, .slice none 0 0, .slice none 0 0, .slice none 0 0, .int .i64 0] 61) = W0 at *
  have x0 : W0.cell? ⟨w.heap.size, 0, none⟩ = _ := hX.cell rfl
  have x1 : W0.cell? ⟨w.heap.size, 1, none⟩ = _ := hX.cell rfl
  have x2 : W0.cell? ⟨w.heap.size, 2, none⟩ = _ := hX.cell rfl
  go_wp2_with fail
  refine (C1.out _ hb0).mono ?_; rintro e w1 ⟨rfl, hb1⟩
  have hY1 := hY.ext hb1
  have hb2 := ext_trans hb0 hb1
  clear x0 x1 x2 hX hY hb0 hb1
  have y0 : w1.cell? ⟨w.heap.size + 1, 0, none⟩ = _ := hY1.cell rfl
  have y1 : w1.cell? ⟨w.heap.size + 1, 1, none⟩ = _ := hY1.cell rfl
  have y2 : w1.cell? ⟨w.heap.size + 1, 2, none⟩ = _ := hY1.cell rfl
  have y3 : w1.cell? ⟨w.heap.size + 1, 3, none⟩ = _ := hY1.cell rfl
  have y4 : w1.cell? ⟨w.heap.size + 1, 4, none⟩ = _ := hY1.cell rfl
  have y5 : w1.cell? ⟨w.heap.size + 1, 5, none⟩ = _ := hY1.cell rfl
  have y6 : w1.cell? ⟨w.heap.size + 1, 6, none⟩ = _ := hY1.cell rfl
  have y7 : w1.cell? ⟨w.heap.size + 1, 7, none⟩ = _ := hY1.cell rfl
  have f0 := hY1.free 0
  have f1 := hY1.free 1
  have f2 := hY1.free 2
  have f3 := hY1.free 3
  have f4 := hY1.free 4
  have f5 := hY1.free 5
  have f6 := hY1.free 6
  have f7 := hY1.free 7
  go_wp2
  generalize hWf : World.setCell _ _ _ = Wf
  have hYf := hY1.put_eq [.slice none 0 0, .slice none 0 0, .int .i64 0, .int .i64 0, .slice none 0 0, .slice none 0 0, .slice none 0 0, .int .i64 0] hWf rfl
  have hbf : Dr.Bel [w.heap.size + 1] w1 Wf := bel_put_eq [.slice none 0 0, .slice none 0 0, .int .i64 0, .int .i64 0, .slice none 0 0, .slice none 0 0, .slice none 0 0, .int .i64 0] hWf
  clear hWf
  have g0 : Wf.cell? ⟨w.heap.size + 1, 0, none⟩ = _ := hYf.cell rfl
  have g1 : Wf.cell? ⟨w.heap.size + 1, 1, none⟩ = _ := hYf.cell rfl
  have g2 : Wf.cell? ⟨w.heap.size + 1, 2, none⟩ = _ := hYf.cell rfl
  have g3 : Wf.cell? ⟨w.heap.size + 1, 3, none⟩ = _ := hYf.cell rfl
  have g4 : Wf.cell? ⟨w.heap.size + 1, 4, none⟩ = _ := hYf.cell rfl
  have g5 : Wf.cell? ⟨w.heap.size + 1, 5, none⟩ = _ := hYf.cell rfl
  have g6 : Wf.cell? ⟨w.heap.size + 1, 6, none⟩ = _ := hYf.cell rfl
  have g7 : Wf.cell? ⟨w.heap.size + 1, 7, none⟩ = _ := hYf.cell rfl
  refine bodyPost_ret (v := .tuple #[pzV, .int .i64 1]) (by simp [results, Try.results13, go_sem, g0, g1, g2, g3, g4, g5, g6, g7, pzV]) rfl ?_
  exact ⟨rfl, hb2.trans (hbf.old (Nat.le_trans (Nat.le_refl _) hb2.size) (by simp))⟩
end Go.Proofs.Ytilkoooahoecfaa

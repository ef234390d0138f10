/- Walks: the document's tour: empty, Small. -/
import Derived.Test.YtilkoooahoecfaaErnA
namespace Go.Proofs.Ytilkoooahoecfaa.Er
open Go.RowKit Go.Bs Go.Pl Go.Sort Go.Er
set_option maxHeartbeats 1000000 in
theorem empty_any (v : TwV) (w : World) : Calls Try.prog 22 #[v.val] w (Soft (emptyT v.x) w) := by
  obtain ⟨⟨opn, slo, shi, pay, lot, rent, riv, cold, cut⟩, O, co, R, cr⟩ := v
  unfold TwV.val emptyT
  simp only
  have hx := ext_alloc w (.cells #[.slice O opn.length co, .int .i64 slo, .int .i64 shi, .int .i64 pay, .int .i64 lot, .int .i64 rent, .slice R riv.length cr, .int .i64 cold, .int .i64 cut] 53)
  generalize hno : opn.length = no at *
  generalize hnr : riv.length = nr at *
  have Hno := Lib.hid hno
  have Hnr := Lib.hid hnr
  clear hno hnr
  have hB := Blk.new w 53 [.slice O no co, .int .i64 slo, .int .i64 shi, .int .i64 pay, .int .i64 lot, .int .i64 rent, .slice R nr cr, .int .i64 cold, .int .i64 cut]
  go_enter Try.func22, Try.ntmps22
  go_upto_region 1 with fail
  change Blk (w.alloc (.cells #[.slice O no co, .int .i64 slo, .int .i64 shi, .int .i64 pay, .int .i64 lot, .int .i64 rent, .slice R nr cr, .int .i64 cold, .int .i64 cut] 53)) w.heap.size _ _ at hB
  generalize w.alloc (.cells #[.slice O no co, .int .i64 slo, .int .i64 shi, .int .i64 pay, .int .i64 lot, .int .i64 rent, .slice R nr cr, .int .i64 cold, .int .i64 cut] 53) = W1 at *
  have c0 : W1.cell? ⟨w.heap.size, 0, none⟩ = _ := hB.cell (i := 0) rfl
  have c1 : W1.cell? ⟨w.heap.size, 1, none⟩ = _ := hB.cell (i := 1) rfl
  have c2 : W1.cell? ⟨w.heap.size, 2, none⟩ = _ := hB.cell (i := 2) rfl
  have c3 : W1.cell? ⟨w.heap.size, 3, none⟩ = _ := hB.cell (i := 3) rfl
  have c4 : W1.cell? ⟨w.heap.size, 4, none⟩ = _ := hB.cell (i := 4) rfl
  have c5 : W1.cell? ⟨w.heap.size, 5, none⟩ = _ := hB.cell (i := 5) rfl
  have c6 : W1.cell? ⟨w.heap.size, 6, none⟩ = _ := hB.cell (i := 6) rfl
  have c7 : W1.cell? ⟨w.heap.size, 7, none⟩ = _ := hB.cell (i := 7) rfl
  have c8 : W1.cell? ⟨w.heap.size, 8, none⟩ = _ := hB.cell (i := 8) rfl
  clear hB
  go_wp2
  all_goals
    go_ret
    refine Soft.of hx fun hb => ?_
    first
      | (exfalso; simp at hb; done)
      | (have h1 := Hno.out; have h2 := Hnr.out; clear Hno Hnr c0 c1 c2 c3 c4 c5 c6 c7 c8; simp_all)
end Go.Proofs.Ytilkoooahoecfaa.Er

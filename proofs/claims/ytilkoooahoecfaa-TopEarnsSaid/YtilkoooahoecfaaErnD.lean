/- Walk: the laws' Small. -/
import Derived.Test.YtilkoooahoecfaaErnC
namespace Go.Proofs.Ytilkoooahoecfaa.Er
open Go.RowKit Go.Bs Go.Pl Go.Sort Go.Er
theorem tw_at {w : World} {A : Option Addr} {l : List TwV} {k : Nat} (h : Cells w A 9 TwV.enc l) (hk : k < l.length) :
    ∃ b off, A = some ⟨b, off, none⟩ ∧ ∀ j u, (l[k]).enc[j]? = some u → w.cell? ⟨b, off + k * 9 + j, none⟩ = some u := by
  obtain ⟨b, off, e, hc⟩ := h.at hk
  exact ⟨b, off, e, fun j u hu => by rw [Nat.add_assoc]; exact hc j u hu⟩
set_option maxHeartbeats 1000000 in
theorem Small_any (t : TrV) (w : World) (hM : TrM w t) : Calls Try.prog 5 #[t.val] w (Soft True w) := by
  have hx := ext_alloc w (.cells t.cells.toArray 25)
  have hB := Blk.new w 25 t.cells
  have hM1 := hM.ext hx
  clear hM
  unfold TrV.val TrV.cells at *
  go_enter Try.func5, Try.ntmps5
  go_upto_block 0 with fail
  change Blk (w.alloc (.cells #[.int .i64 t.days, .int .i64 t.shift, .int .i64 t.size, .slice t.A t.tw.length t.ca, .slice t.B t.lg.length t.cb] 25)) w.heap.size _ _ at hB
  generalize w.alloc (.cells #[.int .i64 t.days, .int .i64 t.shift, .int .i64 t.size, .slice t.A t.tw.length t.ca, .slice t.B t.lg.length t.cb] 25) = W1 at *
  have c3 : W1.cell? ⟨w.heap.size, 3, none⟩ = _ := hB.cell (i := 3) rfl
  have c4 : W1.cell? ⟨w.heap.size, 4, none⟩ = _ := hB.cell (i := 4) rfl
  have hnt := hM1.nt
  have hnl := hM1.nl
  have hT := hM1.tw
  have hLg := hM1.lg
  clear hM1 hB
  obtain ⟨days, shift, size, tw, A, ca, lg, B, cb⟩ := t
  simp only at c3 c4 hnt hnl hT hLg
  generalize htl : tw.length = nt at *
  generalize hll : lg.length = nl at *
  have Htl := Lib.hid htl
  have Hll := Lib.hid hll
  clear htl hll
  go_cut [3] from 5 (fun _ wc => W1 = wc)
  case first =>
    go_wp2
    go_loopw [3] (fun i wr => ∃ k : Nat, i = .int .i64 k ∧ k ≤ nt ∧ W1 = wr) (fun i _ => nt - (intOf i).toNat)
    case atStart => exact ⟨0, rfl, by omega, rfl⟩
    case round =>
      obtain ⟨k, rfl, hk, rfl⟩ := hrel
      by_cases hlt : k < nt
      · obtain ⟨b, off, rfl, hc⟩ := tw_at hT (show k < tw.length by rw [Htl.out]; exact hlt)
        have r0 := hc 0 _ rfl
        have r6 := hc 6 _ rfl
        simp only [Nat.add_zero] at r0
        generalize (tw[k]'(by rw [Htl.out]; exact hlt)) = v at *
        generalize v.x.opn.length = x at *
        generalize v.x.riv.length = y at *
        have hkn : (k : Int) < (nt : Int) := by omega
        have hk0 : (0 : Int) ≤ (k : Int) := by omega
        clear hc
        by_cases h1 : (5 : Int) < (x : Int)
        · go_wp2
          go_ret
          exact Soft.no hx
        by_cases h2 : (5 : Int) < (y : Int)
        · go_wp2
          go_ret
          exact Soft.no hx
        go_wp2
        go_roundw
        case rel => exact ⟨k + 1, by go_num, by omega, by first | rfl | trivial⟩
        case measure => simp [intOf]; omega
      · obtain rfl : k = nt := by omega
        go_wp2
        go_meet
        case rel => first | rfl | trivial
  case rest =>
    obtain rfl := hcut
    go_upto_block 2 with fail
    go_wp2
    go_loopw [4] (fun i wr => ∃ k : Nat, i = .int .i64 k ∧ k ≤ nl ∧ W1 = wr) (fun i _ => nl - (intOf i).toNat)
    case atStart => exact ⟨0, rfl, by omega, rfl⟩
    case round =>
      obtain ⟨k, rfl, hk, rfl⟩ := hrel
      by_cases hlt : k < nl
      · obtain ⟨b, off, rfl, -, r0⟩ := hLg.at1 (show k < lg.length by rw [Hll.out]; exact hlt) rfl
        generalize (lg[k]'(by rw [Hll.out]; exact hlt)) = v at *
        generalize v.l.length = x at *
        have hkn : (k : Int) < (nl : Int) := by omega
        have hk0 : (0 : Int) ≤ (k : Int) := by omega
        by_cases h1 : (12 : Int) < (x : Int)
        · go_wp2
          go_ret
          exact Soft.no hx
        go_wp2
        go_roundw
        case rel => exact ⟨k + 1, by go_num, by omega, by first | rfl | trivial⟩
        case measure => simp [intOf]; omega
      · obtain rfl : k = nl := by omega
        by_cases h1 : (nt : Int) ≤ 12
        · go_wp2
          go_ret
          exact Soft.of hx fun _ => trivial
        · go_wp2
          go_ret
          exact Soft.no hx
end Go.Proofs.Ytilkoooahoecfaa.Er

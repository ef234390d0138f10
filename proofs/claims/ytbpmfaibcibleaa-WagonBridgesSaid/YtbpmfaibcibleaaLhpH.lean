/- Walk: all, of the reference: the rows in one. -/
import Derived.Test.YtbpmfaibcibleaaWaD
namespace Go.Proofs.Ytbpmfaibcibleaa
open Go.RowKit Go.Bs Go.Wg Go.Pl Go.Sort
set_option maxHeartbeats 1000000 in
theorem allR_any (A : Option Addr) (n c : Nat) (rs : List RwV) (w : World) (hn : rs.length = n) (hm : n ≤ 1000000) (hM : RwM w A rs) (hl : (rows rs).flatten.length ≤ 1000000) :
    Calls Try.prog 81 #[.slice A n c] w fun e w' => ∃ v, e = .returned v ∧ OwnL w' w.heap.size 3 1 Go.Bs.encI v (rows rs).flatten ∧ Below w.heap.size w w' := by
  have Hn := Lib.hid hn
  have Hl := Lib.hid (fun k => Nat.le_trans (flat_take_le rs k) hl)
  have Hend := Lib.hid (show (rows (rs.take n)).flatten = (rows rs).flatten by rw [List.take_of_length_le (by omega)])
  have HM := Lib.hid hM
  clear hn hl hM
  go_enter Try.func81, Try.ntmps81
  go_wp2
  go_loopw [3, 4] (fun s t wr => ∃ k : Nat, t = .int .i64 k ∧ k ≤ n ∧ OwnL wr w.heap.size 3 1 Go.Bs.encI s (rows (rs.take k)).flatten ∧ Below w.heap.size w wr) (fun _ t _ => n - (intOf t).toNat)
  case atStart => exact ⟨0, rfl, by omega, OwnL.nil, Below.refl _ _⟩
  case round =>
    obtain ⟨k, rfl, hk, ho, hb⟩ := hrel
    by_cases hlt : k < n
    · have hlt' : (k : Int) < (n : Int) := by omega
      have hk1 : k < rs.length := by rw [Hn.out]; exact hlt
      have hM1 := HM.out.ext hb
      obtain ⟨b, off, rfl, -, c0⟩ := hM1.hdr.at1 hk1 rfl
      have hrow := hM1.row _ (List.getElem_mem hk1)
      have Hf := Lib.hid (flat_snoc hk1)
      have hL1 := Hl.out (k + 1)
      rw [flat_snoc hk1, List.length_append] at hL1
      have HL1 := Lib.hid hL1
      have hsz := hb.size
      clear hM1 hL1
      generalize (rows (rs.take k)).flatten = L2 at *
      generalize rs[k] = x at *
      go_wp2_with (at_builtin; refine app_ints 35 3 et35 rfl _ _ rfl w.heap.size _ L2 rfl ho x.A _ x.c x.r rfl rfl hrow (by have := HL1.out; omega) hsz ?_; intro v' w' ho' hb' _ _)
      rw [← Hf.out] at ho'
      have hb2 := hb.trans hb'
      clear hb'
      go_wp2
      go_roundw
      case rel => exact ⟨k + 1, by go_num, by omega, ho', hb2⟩
      case measure => simp [intOf]; omega
    · obtain rfl : n = k := by omega
      rw [Hend.out] at ho
      go_wp2
      go_ret
      exact ⟨_, rfl, ho, hb⟩
end Go.Proofs.Ytbpmfaibcibleaa

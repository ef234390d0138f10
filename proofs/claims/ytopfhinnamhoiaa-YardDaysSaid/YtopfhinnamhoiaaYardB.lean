/- Walk: foes. -/
import Derived.Deep.DeepCutAuto
import Derived.Carry
import Derived.Test.YtopfhinnamhoiaaYardA
import Derived.Test.YtopfhinnamhoiaaDraw
namespace Go.Proofs.Ytopfhinnamhoiaa
open Go.RowKit Go.Bs Go.Yd Go.Pl Go.Sort
attribute [local go_sem] run_store_func run_store_map

def foeL (l : List (Int × Int)) : List (Nat × Nat) := l.foldl (fun ps p => (p.2.toNat, p.1.toNat) :: (p.1.toNat, p.2.toNat) :: ps) []
theorem bel_grown {w w' : World} {b : Nat} {M : List Nat} (h : w.grownBy w' (some b)) (hb : b ∈ M) : Dr.Bel M w w' :=
  ⟨h.os, h.tape, h.output, h.size, fun k hk hm => h.block k hk (fun e => by cases e; exact hm hb)⟩
theorem below_grown {w0 w w' : World} {b : Nat} (h : Below w0.heap.size w0 w) (hg : w.grownBy w' (some b)) (hb : w0.heap.size ≤ b) : Below w0.heap.size w0 w' :=
  h.grown hg h.size (fun k e => by cases e; exact hb)

set_option maxRecDepth 100000 in
set_option maxHeartbeats 2000000 in
theorem foes_any (y : Yrd) (A1 A2 A3 : Option Addr) (n1 n2 n3 c1 c2 c3 : Nat) (w : World) (h3 : y.foes.length = n3) (m3 : n3 ≤ 1000) (hd : YdAt w y A1 A2 A3)
    (hok : ∀ p ∈ y.foes, (0 ≤ p.1 ∧ p.1 < 8) ∧ (0 ≤ p.2 ∧ p.2 < 8)) :
    Calls Try.prog 82 #[.agg #[.slice A1 n1 c1, .slice A2 n2 c2, .slice A3 n3 c3]] w fun e w' => ∃ b : Nat, e = .returned (.map (some b)) ∧ w.heap.size ≤ b ∧ PMap w' b (foeL y.foes) ∧ Below w.heap.size w w' := by
  have hf := hd.f
  clear hd
  generalize hl : y.foes = l at *
  clear hl
  have H3 := Lib.hid h3
  clear h3
  go_enter Try.func82, Try.ntmps82
  have hmm := @run_makeMap Try.prog
  go_upto_region 2 with fail
  have hb0 : Below w.heap.size w ((w.alloc (.cells #[.slice A1 n1 c1, .slice A2 n2 c2, .slice A3 n3 c3] 61)).alloc (.map #[] 0)) := ((Below.refl _ _).alloc (Nat.le_refl _) _).alloc (by simp) _
  have hp0 : PMap ((w.alloc (.cells #[.slice A1 n1 c1, .slice A2 n2 c2, .slice A3 n3 c3] 61)).alloc (.map #[] 0)) (w.heap.size + 1) (foeL (l.take 0)) := by
    have := PMap.new (w.alloc (.cells #[.slice A1 n1 c1, .slice A2 n2 c2, .slice A3 n3 c3] 61))
    simpa [foeL] using this
  have x2 : ((w.alloc (.cells #[.slice A1 n1 c1, .slice A2 n2 c2, .slice A3 n3 c3] 61)).alloc (.map #[] 0)).cell? ⟨w.heap.size, 2, none⟩ = some (.slice A3 n3 c3) := cell_ext (by simp) (ext_alloc _ _)
  generalize (w.alloc (.cells #[.slice A1 n1 c1, .slice A2 n2 c2, .slice A3 n3 c3] 61)).alloc (.map #[] 0) = W0 at *
  go_wp2
  go_loopw [10] (fun x wr => ∃ k : Nat, x = .int .i64 k ∧ k ≤ n3 ∧ PMap wr (w.heap.size + 1) (foeL (l.take k)) ∧ Below w.heap.size w wr) (fun x _ => n3 - (intOf x).toNat)
  case atStart => exact ⟨0, rfl, by omega, hp0, hb0⟩
  case round =>
    clear hb0 hp0 x2
    obtain ⟨k, rfl, hk, hp, hb⟩ := hrel
    by_cases hlt : k < n3
    · have hlt' : (k : Int) < n3 := by omega
      have hk0 : (0 : Int) ≤ k := by omega
      have hkl : k < l.length := by rw [H3.out]; exact hlt
      obtain ⟨b, off, rfl, hbl, d0, d1⟩ := (Cells.ext hf hb).at2 hkl rfl
      have hq := hok l[k] (List.getElem_mem _)
      have hnx : foeL (l.take (k + 1)) = (l[k].2.toNat, l[k].1.toNat) :: (l[k].1.toNat, l[k].2.toNat) :: foeL (l.take k) := by
        rw [List.take_succ_eq_append_getElem hkl]
        unfold foeL
        rw [List.foldl_append]; rfl
      have Hnx := Lib.hid hnx
      clear hnx
      generalize l[k] = p at *
      obtain ⟨⟨a0, a1⟩, b0, b1⟩ := hq
      obtain ⟨a, ha⟩ := Int.eq_ofNat_of_zero_le a0
      obtain ⟨c, hc⟩ := Int.eq_ofNat_of_zero_le b0
      rw [ha] at d0 a1
      rw [hc] at d1 b1
      have Hac := Lib.hid (And.intro ha hc)
      clear ha hc a0 b0
      go_upto_region 5 with fail
      have hp2 := hp.ext (ext_alloc wr (.cells #[.int .i64 (a : Int), .int .i64 (c : Int)] 64))
      have hb2 := ext_trans hb (ext_alloc wr (.cells #[.int .i64 (a : Int), .int .i64 (c : Int)] 64))
      have hr2 : Blk (wr.alloc (.cells #[.int .i64 (a : Int), .int .i64 (c : Int)] 64)) wr.heap.size 64 [.int .i64 (a : Int), .int .i64 (c : Int)] := Blk.new wr 64 [.int .i64 (a : Int), .int .i64 (c : Int)]
      have hlm := hp.lt
      clear hp hb d0 d1 hbl
      generalize wr.alloc (.cells #[.int .i64 (a : Int), .int .i64 (c : Int)] 64) = W at *
      refine Dr.wp_region_plan 13 [w.heap.size + 1] (.q [0, 1, 2, 3, 4, 5, 6, 7, 8, 9, 10, 11] (.e1 12 .done)) (by kernel_rfl) (by kernel_rfl) ?_
      have hp3 := hp2.ext (ext_drew W)
      have hb3 := hb2.drew
      have hr3 := hr2.ext (ext_drew W)
      clear hp2 hb2 hr2
      generalize W.drew = W2 at *
      have q0 := Dr.cls_cell (M := [w.heap.size + 1]) (hr3.cell (i := 0) rfl) (by simp; omega)
      have q1 := Dr.cls_cell (M := [w.heap.size + 1]) (hr3.cell (i := 1) rfl) (by simp; omega)
      refine Dr.plan_q (l := [_, _, _, _, _, _, _, _, _, _, _, _]) rfl (fun K hK => ?_)
      iterate 12 (go_big_quiet_step (fail))
      refine wpQuiet_nil (hK _ ?_); clear hK K
      clear q0 q1 hr3
      have ha8 : a < 8 := by omega
      have hc8 : c < 8 := by omega
      obtain ⟨W3, hu, hp4, hg4⟩ := hp3.put (p := (a, c)) ha8 hc8
      change (Instr.mapUpdate 138 (.map (some (w.heap.size + 1))) (.agg #[.int .i64 (a : Int), .int .i64 (c : Int)]) (.bool true)).run Try.prog W2 = .ok () W3 at hu
      have hb4 := below_grown hb3 hg4 (by omega)
      refine Dr.plan_e rfl (by rfl) (fun K hK => ?_)
      go_wp2_with fail
      refine hK _ _ (bel_grown hg4 (by simp)) ?_; clear hK K
      clear hu hp3 hg4
      obtain ⟨W5, hu, hp5, hg5⟩ := hp4.put (p := (c, a)) hc8 ha8
      change (Instr.mapUpdate 138 (.map (some (w.heap.size + 1))) (.agg #[.int .i64 (c : Int), .int .i64 (a : Int)]) (.bool true)).run Try.prog W3 = .ok () W5 at hu
      have hb5 := below_grown hb4 hg5 (by omega)
      refine Dr.plan_done (tl := [_]) rfl ?_
      go_wp2
      go_roundw
      case rel => exact ⟨k + 1, by go_num, by omega, by rw [Hnx.out, Hac.out.1, Hac.out.2]; exact hp5, hb5⟩
      case measure => simp [intOf]; omega
    · obtain rfl : k = n3 := by omega
      have ht : l.take k = l := List.take_of_length_le (by rw [H3.out]; omega)
      have Ht := Lib.hid ht
      clear ht
      go_wp2
      go_ret
      exact ⟨_, rfl, by omega, by rw [Ht.out] at hp; exact hp, hb⟩
end Go.Proofs.Ytopfhinnamhoiaa

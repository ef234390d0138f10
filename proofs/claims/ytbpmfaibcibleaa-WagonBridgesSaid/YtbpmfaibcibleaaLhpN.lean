/- Walks: valid; Numbers of the document; a copy of things in one append. (Printed by mk_beaa.py.) -/
import Derived.Test.YtbpmfaibcibleaaLhpC
import Derived.Test.YtbpmfaibcibleaaWaD
import Derived.Test.YtbpmfaibcibleaaSorY
import Derived.Test.YtbpmfaibcibleaaAppH
namespace Go.Wg
open Go.RowKit Go.Bs Go.Pl
theorem uptoS (k : Nat) : upto (k + 1) = upto k ++ [(k : Int)] := by unfold upto; rw [List.range_succ, List.map_append]; rfl
end Go.Wg
namespace Go.Proofs.Ytbpmfaibcibleaa
open Go.RowKit Go.Bs Go.Wg Go.Pl Go.Sort
theorem valid_any (A : Option Addr) (n c : Nat) (h ca em re ax dk : Int) (l : List Int) (T : Option Addr) (m cT : Nat) (ts : List Th) (w : World) (hn : l.length = n) (hn0 : n ≤ 9223372036854775807) (hd : Cells w A 1 Go.Bs.encI l) (hm : ts.length = m) (hm0 : m ≤ 9223372036854775807) (ht : Cells w T 4 Th.enc ts) :
    Calls Try.prog 33 #[.agg #[.slice A n c, .int .i64 h, .int .i64 ca, .int .i64 em, .int .i64 re, .int .i64 ax, .int .i64 dk], .slice T m cT] w fun e w' => e = .returned (.bool (decide (checkE ⟨l, h, ca, em, re, ax, dk⟩ ts = 0))) ∧ Below w.heap.size w w' := by
  have CF := Lib.hid (fun V (hV : Below w.heap.size w V) => Fault_any A n c h ca em re ax dk l T m cT ts V hn hn0 (hd.ext hV) hm hm0 (ht.ext hV))
  generalize checkE ⟨l, h, ca, em, re, ax, dk⟩ ts = ce at *
  have hcb : decide (ce = 0) = (ce == 0) := by rw [Bool.eq_iff_iff]; simp
  rw [hcb]
  clear hcb hn hm hd ht
  have hb := ext_alloc w (.cells #[.slice A n c, .int .i64 h, .int .i64 ca, .int .i64 em, .int .i64 re, .int .i64 ax, .int .i64 dk] 37)
  have hP := Blk.new w 37 [.slice A n c, .int .i64 h, .int .i64 ca, .int .i64 em, .int .i64 re, .int .i64 ax, .int .i64 dk]
  go_enter Try.func33, Try.ntmps33
  go_upto_region 1 with fail
  change Blk (w.alloc (.cells #[.slice A n c, .int .i64 h, .int .i64 ca, .int .i64 em, .int .i64 re, .int .i64 ax, .int .i64 dk] 37)) _ _ _ at hP
  change Below w.heap.size w (w.alloc (.cells #[.slice A n c, .int .i64 h, .int .i64 ca, .int .i64 em, .int .i64 re, .int .i64 ax, .int .i64 dk] 37)) at hb
  generalize w.alloc (.cells #[.slice A n c, .int .i64 h, .int .i64 ca, .int .i64 em, .int .i64 re, .int .i64 ax, .int .i64 dk] 37) = W0 at *
  have q0 : W0.cell? ⟨w.heap.size, 0, none⟩ = _ := hP.cell rfl
  have q1 : W0.cell? ⟨w.heap.size, 1, none⟩ = _ := hP.cell rfl
  have q2 : W0.cell? ⟨w.heap.size, 2, none⟩ = _ := hP.cell rfl
  have q3 : W0.cell? ⟨w.heap.size, 3, none⟩ = _ := hP.cell rfl
  have q4 : W0.cell? ⟨w.heap.size, 4, none⟩ = _ := hP.cell rfl
  have q5 : W0.cell? ⟨w.heap.size, 5, none⟩ = _ := hP.cell rfl
  have q6 : W0.cell? ⟨w.heap.size, 6, none⟩ = _ := hP.cell rfl
  go_wp2_with fail
  refine (CF.out _ hb).mono ?_; rintro e W1 ⟨rfl, hx⟩
  replace hb := ext_trans hb hx
  replace hP := hP.ext hx
  clear hx CF
  clear q0 q1 q2 q3 q4 q5 q6
  go_wp2
  go_ret
  exact ⟨rfl, hb⟩
set_option maxHeartbeats 1000000 in
theorem Numbers_any (n : Nat) (w : World) (hn : n ≤ 1000000) :
    Calls Try.prog 31 #[.int .i64 (n : Int)] w fun e w' => (∃ v, e = .returned v ∧ OwnL w' w.heap.size 3 1 Go.Bs.encI v (upto n)) ∧ Below w.heap.size w w' := by
  go_enter Try.func31, Try.ntmps31
  go_wp2
  go_loopw [3, 4] (fun s t wr => ∃ z : Nat, t = .int .i64 z ∧ z ≤ n ∧ OwnL wr w.heap.size 3 1 Go.Bs.encI s (upto z) ∧ Below w.heap.size w wr) (fun _ t _ => n - (intOf t).toNat)
  case atStart => exact ⟨0, rfl, by omega, OwnL.nil, Below.refl _ _⟩
  case round =>
    obtain ⟨z, rfl, hz, ho, hb⟩ := hrel
    by_cases hlt : z < n
    · have hlt' : (z : Int) < (n : Int) := by omega
      have hul : (upto z).length ≤ 1000000 := by rw [upto_len]; omega
      go_upto_region 4 with (at_builtin; refine app1 Go.Bs.encI 35 3 1 8 et35 (by decide) (by decide) Go.Bs.encI_len Go.Bs.encI_one rfl _ _ rfl w.heap.size _ (upto z) rfl (ho.alloc _) wr.heap.size rfl (z : Int) (Go.Bs.encI_cell ((Blk.new wr 3 [.int .i64 (z : Int)]).cell rfl)) hul (by have := hb.size; simp; omega) ?_; intro g' cap' V2 hown2 hb2 _ _; rw [← uptoS] at hown2)
      have hbV := hb.trans (((ext_alloc wr (.cells #[.int .i64 (z : Int)] 3)).mono hb.size).trans hb2)
      rw [upto_len] at hown2
      rw [upto_len]
      clear ho hb hb2 hul
      go_wp2
      go_roundw
      case rel => exact ⟨z + 1, by go_num, by omega, hown2, hbV⟩
      case measure => simp [intOf]; omega
    · obtain rfl : z = n := by omega
      go_wp2
      go_ret
      exact ⟨⟨_, rfl, ho⟩, hb⟩
theorem NumC (n : Nat) (w : World) (hn : n ≤ 1000000) : Calls Try.prog 31 #[.int .i64 (n : Int)] w fun e w' => (∃ A c, e = .returned (.slice A n c) ∧ Cells w' A 1 Go.Bs.encI (upto n)) ∧ Below w.heap.size w w' :=
  (Numbers_any n w hn).mono fun e w' ⟨⟨v, he, ho⟩, hb⟩ => by
    obtain ⟨A, c, rfl, -, -, h4⟩ := ho.cells Go.Bs.encI_len
    rw [upto_len] at he
    exact ⟨⟨A, c, he, h4⟩, hb⟩
theorem info62 : (Try.prog.info? 62).map (fun i => (i.zero, i.size, i.bytes)) = some (some (.agg #[.int .i64 0, .int .i64 0, .int .i64 0, .int .i64 0]), 4, 32) := by kernel_rfl
theorem et38 : ElemT Try.prog 38 62 4 32 := ElemT.mk Try.underlying38 info62 rfl
theorem validC (A : Option Addr) (c : Nat) (h ca em re ax dk : Int) (l : List Int) (T : Option Addr) (cT : Nat) (ts : List Th) (V : World) (hl : l.length ≤ 9223372036854775807) (hm : ts.length ≤ 9223372036854775807) (hd : Cells V A 1 Go.Bs.encI l) (ht : Cells V T 4 Th.enc ts) :
    Calls Try.prog 33 #[.agg #[.slice A l.length c, .int .i64 h, .int .i64 ca, .int .i64 em, .int .i64 re, .int .i64 ax, .int .i64 dk], .slice T ts.length cT] V fun e w' => e = .returned (.bool (decide (checkE ⟨l, h, ca, em, re, ax, dk⟩ ts = 0))) ∧ Below V.heap.size V w' := valid_any A l.length c h ca em re ax dk l T ts.length cT ts V rfl hl hd rfl hm ht
end Go.Proofs.Ytbpmfaibcibleaa

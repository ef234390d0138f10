/- Walk: the casts without a person. -/
import Derived.Test.YtcnidhcdkbfpcaaPrlR
namespace Go.Proofs.Ytcnidhcdkbfpcaa
open Go.RowKit Go.Bs Go.Pg Go.Pl Go.Sort
set_option maxRecDepth 100000 in
set_option maxHeartbeats 1000000 in
theorem casts_any (x : AcV) (pn : Nat) (w : World) (hp : pn ≤ 16) (hx : Cells w x.C 1 encU x.a.casts) (hl : x.a.casts.length ≤ 1000) (hc : ∀ c ∈ x.a.casts, c < 65536) :
    Calls Try.prog 80 #[AcV.val x, .int .i64 pn] w fun e w' => (∃ v, e = .returned v ∧ OwnL w' w.heap.size 47 1 encU v (x.a.casts.filter fun c => !c.testBit pn)) ∧ Below w.heap.size w w' := by
  obtain ⟨⟨mn, tn, rg, cs, sp⟩, C, cc⟩ := x
  simp only at hx hl hc
  have hb0 := ext_alloc w (.cells #[.int .i64 mn, .int .i64 tn, .int .u16 rg, .slice C cs.length cc, .bool sp] 82)
  have hS := Blk.new w 82 [.int .i64 mn, .int .i64 tn, .int .u16 rg, .slice C cs.length cc, .bool sp]
  have Hx := Lib.hid hx
  have Hc := Lib.hid hc
  have hF : ∀ i (hi : i < cs.length), (cs.take (i + 1)).filter (fun c => !c.testBit pn) = if cs[i].testBit pn = true then (cs.take i).filter (fun c => !c.testBit pn) else (cs.take i).filter (fun c => !c.testBit pn) ++ [cs[i]] := fun i hi => by
    rw [List.take_succ_eq_append_getElem hi, List.filter_append]
    cases h : cs[i].testBit pn <;> simp [h]
  have HF := Lib.hid hF
  have HL := Lib.hid (show ∀ i, ((cs.take i).filter (fun c => !c.testBit pn)).length ≤ 1000 from fun i => by
    have h1 := List.length_filter_le (fun c : Nat => !c.testBit pn) (cs.take i)
    rw [List.length_take] at h1
    omega)
  have HE := Lib.hid (show (cs.take cs.length).filter (fun c => !c.testBit pn) = cs.filter (fun c => !c.testBit pn) from by rw [List.take_length])
  generalize cs.filter (fun c => !c.testBit pn) = res at *
  clear hx hc hF
  unfold AcV.val
  go_enter Try.func80, Try.ntmps80
  go_upto_region 1 with fail
  change Blk (w.alloc (.cells #[.int .i64 mn, .int .i64 tn, .int .u16 rg, .slice C cs.length cc, .bool sp] 82)) _ _ _ at hS
  generalize w.alloc (.cells #[.int .i64 mn, .int .i64 tn, .int .u16 rg, .slice C cs.length cc, .bool sp] 82) = W0 at *
  have x3 : W0.cell? ⟨w.heap.size, 3, none⟩ = _ := hS.cell (i := 3) rfl
  go_upto_block 0 with fail
  clear x3
  go_wp2
  go_loopw [5, 11] (fun v t wr => ∃ i : Nat, t = .int .i64 i ∧ i ≤ cs.length ∧ OwnL wr w.heap.size 47 1 encU v ((cs.take i).filter fun c => !c.testBit pn) ∧ Below w.heap.size w wr) (fun _ t _ => cs.length - (intOf t).toNat)
  case atStart => exact ⟨0, rfl, by omega, by simpa using OwnL.nil, hb0⟩
  case round =>
    obtain ⟨i, rfl, hi, hown, hbr⟩ := hrel
    by_cases hlt : i < cs.length
    · have hlt' : (i : Int) < (cs.length : Int) := by omega
      have hi0 : (0 : Int) ≤ (i : Int) := by omega
      obtain ⟨b, off, hC, -, c0⟩ := (Hx.out.ext hbr).at1 hlt rfl
      subst hC
      have hcb := Hc.out _ (List.getElem_mem hlt)
      have hst := HF.out i hlt
      have hll := HL.out i
      have hbit := bit16 cs[i] pn hcb
      generalize cs[i] = ci at *
      generalize (cs.take i).filter (fun c => !c.testBit pn) = ft at *
      have Hst := Lib.hid hst
      have Ho := Lib.hid hown
      have hsz := hbr.size
      clear hst hown HF HL
      cases hb : ci.testBit pn
      · rw [hb] at hbit
        have HN : Hid ((cs.take (i + 1)).filter (fun c => !c.testBit pn) = ft ++ [ci]) := Lib.hid (by rw [Hst.out, hb]; simp)
        have hnew := Blk.new wr 47 (encU ci)
        have hba := ext_alloc wr (.cells #[.int .u16 ci] 47)
        clear hb Hst
        simp only [Bool.false_eq_true, if_false] at hbit
        go_wp2_with (at_builtin; refine app1 encU 48 47 1 2 et48 (by decide) (by decide) encU_len encU_one rfl _ _ rfl w.heap.size _ ft rfl (Ho.out.alloc _) wr.heap.size rfl ci (fun j u hj => hnew.cell hj) (by omega) (by simp; omega) ?_; intro g' cap' V9 hown' hb7 hgr7 hat7)
        go_roundw
        case rel => exact ⟨i + 1, by go_num, by omega, by rw [HN.out]; exact hown', hbr.trans ((hba.mono hsz).trans hb7)⟩
        case measure => simp [intOf]; omega
      · rw [hb] at hbit
        have HN : Hid ((cs.take (i + 1)).filter (fun c => !c.testBit pn) = ft) := Lib.hid (by rw [Hst.out, hb]; simp)
        clear hb Hst
        simp only [if_true] at hbit
        go_wp2
        go_roundw
        case rel => exact ⟨i + 1, by go_num, by omega, by rw [HN.out]; exact Ho.out, hbr⟩
        case measure => simp [intOf]; omega
    · obtain rfl : i = cs.length := by omega
      rw [HE.out] at hown
      have Ho := Lib.hid hown
      clear hown
      go_wp2
      go_ret
      exact ⟨⟨_, rfl, Ho.out⟩, hbr⟩
end Go.Proofs.Ytcnidhcdkbfpcaa

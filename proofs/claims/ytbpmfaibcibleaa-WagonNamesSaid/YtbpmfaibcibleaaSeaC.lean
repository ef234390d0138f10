/- Walks: the ways behind the next thing (an iterator). (Printed by mk_seac.py.) -/
import Derived.Test.YtbpmfaibcibleaaSeaB
namespace Go.Wg
open Go.RowKit Go.Bs Go.Pl
/-- the ways among the first lanes -/
def wysTo (p : SeP) (x : Sta) (k : Nat) : List Nat := (List.range k).filter (canB p.ld (p.th x.next) x.left x.needs)
theorem wysTo_end (p : SeP) (x : Sta) : wysTo p x p.nl = wys p x := rfl
theorem wysTo_hit {p : SeP} {x : Sta} {k : Nat} (h : canB p.ld (p.th x.next) x.left x.needs k = true) : wysTo p x (k + 1) = wysTo p x k ++ [k] := by
  unfold wysTo; rw [List.range_succ, List.filter_append, List.filter_cons_of_pos h]; rfl
theorem wysTo_miss {p : SeP} {x : Sta} {k : Nat} (h : canB p.ld (p.th x.next) x.left x.needs k = false) : wysTo p x (k + 1) = wysTo p x k := by
  unfold wysTo; rw [List.range_succ, List.filter_append, List.filter_cons_of_neg (by simp [h])]; simp
theorem wysTo_next {p : SeP} {x : Sta} {k : Nat} (h : canB p.ld (p.th x.next) x.left x.needs k = true) (hk : k < p.nl) : ∃ r, wys p x = wysTo p x k ++ k :: r := by
  refine ⟨((List.range p.nl).drop (k + 1)).filter (canB p.ld (p.th x.next) x.left x.needs), ?_⟩
  have e : List.range p.nl = List.range k ++ k :: (List.range p.nl).drop (k + 1) := by
    have h1 := (List.take_append_drop k (List.range p.nl)).symm
    rw [List.take_range, Nat.min_eq_left (by omega), List.drop_eq_getElem_cons (by simpa using hk)] at h1
    simpa using h1
  unfold wys waysL wysTo
  conv => lhs; rw [e]
  rw [List.filter_append, List.filter_cons_of_pos h]
theorem gz_set {l : List Int} (h : l.length = 6) {k : Nat} (hk : k < 6) {v : Int} : gz (l.set k v) k = v := by
  unfold gz
  rw [List.getD_eq_getElem?_getD, List.getElem?_set_self (by omega)]; rfl
theorem staC_setNext' (x : Sta) : (staC x).set 0 (.int .i64 ((x.next : Int) + 1)) = staC ⟨x.next + 1, x.left, x.needs⟩ := by simp [staC]
end Go.Wg
namespace Go.Proofs.Ytbpmfaibcibleaa
open Go.RowKit Go.Bs Go.Wg Go.Pl Go.Sort
theorem ways_any (S : Nat) (x : Sta) (w : World) :
    Calls Try.prog 128 #[.pointer (some ⟨S, 0, none⟩), staV x] w fun e w' => e = .returned (.func (.func 144) #[] #[.pointer (some ⟨w.heap.size, 0, none⟩), .pointer (some ⟨w.heap.size + 1, 0, none⟩)]) ∧ Blk w' w.heap.size 139 [.pointer (some ⟨S, 0, none⟩)] ∧ Blk w' (w.heap.size + 1) 146 (staC x) ∧ Below w.heap.size w w' ∧ w'.heap.size = w.heap.size + 2 := by
  have h1 := (Blk.new w 139 [.pointer (some ⟨S, 0, none⟩)]).alloc (.cells (staC x).toArray 146)
  have h2 := Blk.new (w.alloc (.cells #[.pointer (some ⟨S, 0, none⟩)] 139)) 146 (staC x)
  rw [World.size_alloc] at h2
  have hb : Below w.heap.size w ((w.alloc (.cells #[.pointer (some ⟨S, 0, none⟩)] 139)).alloc (.cells (staC x).toArray 146)) := ((Below.refl _ _).alloc (Nat.le_refl _) _).alloc (by simp) _
  have hz : ((w.alloc (.cells #[.pointer (some ⟨S, 0, none⟩)] 139)).alloc (.cells (staC x).toArray 146)).heap.size = w.heap.size + 2 := by simp
  unfold staV
  unfold staC at *
  go_enter Try.func128, Try.ntmps128
  go_wp2
  go_ret
  exact ⟨rfl, h1, h2, hb, hz⟩
section
attribute [local go_sem] Oper.semAt_some
set_option maxRecDepth 100000 in
set_option maxHeartbeats 4000000 in
theorem ways_next (p : SeP) (hs : SeS p) (x : Sta) (hx : x.Ok p.l.length) (hlt : x.next < p.l.length) (b1 b2 : Nat) (w : World) (hM : SeM w p) (h1 : Blk w b1 139 [.pointer (some ⟨p.S, 0, none⟩)]) (h2 : Blk w b2 146 (staC x)) (n1 : b1 ∉ [p.I, p.M]) (n2 : b2 ∉ [p.I, p.M]) (hMw : p.I < w.heap.size ∧ p.M < w.heap.size) (m : Nat) (hm : 1 ≤ m) :
    SeqStop Fence.wide m Try.prog 144 #[.pointer (some ⟨b1, 0, none⟩), .pointer (some ⟨b2, 0, none⟩)] (fun i : Nat => #[.int .i64 i, staV (nxt p x i)]) (KpC [p.I, p.M]) (fun ys => ys = wys p x) (fun pre i => ∃ r, wys p x = pre ++ i :: r) w := by
  intro l J Jx W hW hJB hY h0
  have hM0 := hM.ext hW
  have g1 := h1.ext hW
  have g2 := h2.ext hW
  have hMW : p.I < W.heap.size ∧ p.M < W.heap.size := by have := hW.size; omega
  clear hM h1 h2 hW hMw
  refine callsIn_of_wp Try.func144 rfl trivial ?_ rfl
  simp only [Try.ntmps144, List.size_toArray, List.length_cons, List.length_nil, Nat.reduceAdd, Nat.reduceSub, Array.replicate_succ, Array.replicate_zero, List.push_toArray, List.append_toArray, List.nil_append, List.cons_append]
  have hto := hs.th hlt
  have hxi := hs.inR (p.l.getD x.next 0) (by simp [List.getD, hlt])
  obtain ⟨j, hj⟩ : ∃ j : Nat, p.l.getD x.next 0 = j := ⟨(p.l.getD x.next 0).toNat, by omega⟩
  have hjt : j < p.ts.length := by omega
  have hlj : p.l[x.next] = (j : Int) := by simpa [List.getD, hlt] using hj
  have hte : p.th x.next = p.ts[j] := by unfold SeP.th; rw [hj, thAt_eq hjt]
  gi_upto_region 0 with fail
  refine Dr.wpIn_region_plan rfl ?q 16 [] (.q [0, 1, 2, 3, 4, 5, 6, 7, 8, 9, 10, 11, 12, 13, 14] (.e1 15 .done)) (by kernel_rfl) (by kernel_rfl) (by kernel_rfl) ?_
  case q => rintro ⟨_, _, ⟨_, hv⟩, -⟩; cases hv
  have hM1 := hM0.ext (ext_drew W)
  have k1 := g1.drew
  have k2 := g2.drew
  have hb1 := ext_drew W
  have hxn := hx.next
  have hsl := hs.sl
  have hst := hs.st
  clear hM0 g1 g2
  generalize hW1 : W.drew = W1 at *
  clear hW1
  have q0 := Dr.cell0 (k1.cell (i := 0) rfl)
  have hsb := hM1.sb
  unfold seC at hsb
  obtain ⟨bl, ol, eL, -, c0⟩ := hM1.list.at1 hlt rfl
  obtain ⟨bt, ot, eT, -, d0, d1, d2, d3⟩ := hM1.things.at4 hjt rfl
  rw [hlj] at c0
  rw [eL, eT] at hsb
  have q7 := Dr.cell0 (hsb.cell (i := 7) rfl)
  have q8 := Dr.cell0 (hsb.cell (i := 8) rfl)
  have r0 := Dr.cell0 (k2.cell (i := 0) rfl)
  have c0 := Dr.cell0 c0
  have d0 := Dr.cell0 d0
  have d1 := Dr.cell0 d1
  have d2 := Dr.cell0 d2
  have d3 := Dr.cell0 d3
  have i1 : (x.next : Int) < (p.l.length : Int) := by omega
  have i2 : (j : Int) < (p.ts.length : Int) := by omega
  refine Dr.plan_q (l := [_, _, _, _, _, _, _, _, _, _, _, _, _, _, _]) rfl (fun K hK => ?_)
  iterate 15 (go_big_quiet_step (fail))
  refine wpQuiet_nil (hK _ ?_); clear hK K
  clear q0 q7 q8 r0 c0 d0 d1 d2 d3
  refine Dr.plan_e rfl (by rfl) (fun K hK => ?_)
  go_wp2
  refine hK _ _ (.of (ext_alloc _ _)) ?_; clear hK K
  have hT := Blk.new W1 102 [.int .i64 0, .int .i64 0, .int .i64 0, .int .i64 0]
  have hx2 := ext_alloc W1 (.cells #[.int .i64 0, .int .i64 0, .int .i64 0, .int .i64 0] 102)
  change Blk (W1.alloc (.cells #[.int .i64 0, .int .i64 0, .int .i64 0, .int .i64 0] 102)) _ _ _ at hT
  generalize W1.alloc (.cells #[.int .i64 0, .int .i64 0, .int .i64 0, .int .i64 0] 102) = W2 at *
  have t0 : W2.cell? ⟨W1.heap.size, 0, none⟩ = _ := hT.cell (i := 0) rfl
  have t1 : W2.cell? ⟨W1.heap.size, 1, none⟩ = _ := hT.cell (i := 1) rfl
  have t2 : W2.cell? ⟨W1.heap.size, 2, none⟩ = _ := hT.cell (i := 2) rfl
  have t3 : W2.cell? ⟨W1.heap.size, 3, none⟩ = _ := hT.cell (i := 3) rfl
  have f0 := hT.free 0
  have f1 := hT.free 1
  have f2 := hT.free 2
  have f3 := hT.free 3
  refine Dr.plan_done (tl := [_]) rfl ?_
  go_wp2
  have hT2 := (((hT.set 0 (.int .i64 p.ts[j].long)).set 1 (.int .i64 p.ts[j].high)).set 2 (.int .i64 p.ts[j].mass)).set 3 (.int .i64 p.ts[j].need)
  simp only [List.set_cons_zero, List.set_cons_succ] at hT2
  have hx3 : Below W1.heap.size W1 _ := (((hx2.setCell (p := ⟨W1.heap.size, 0, none⟩) (Nat.le_refl _) (.int .i64 p.ts[j].long)).setCell (p := ⟨W1.heap.size, 1, none⟩) (Nat.le_refl _) (.int .i64 p.ts[j].high)).setCell (p := ⟨W1.heap.size, 2, none⟩) (Nat.le_refl _) (.int .i64 p.ts[j].mass)).setCell (p := ⟨W1.heap.size, 3, none⟩) (Nat.le_refl _) (.int .i64 p.ts[j].need)
  clear hT hx2 t0 t1 t2 t3 f0 f1 f2 f3
  generalize (((W2.setCell ⟨W1.heap.size, 0, none⟩ (.int .i64 p.ts[j].long)).setCell ⟨W1.heap.size, 1, none⟩ (.int .i64 p.ts[j].high)).setCell ⟨W1.heap.size, 2, none⟩ (.int .i64 p.ts[j].mass)).setCell ⟨W1.heap.size, 3, none⟩ (.int .i64 p.ts[j].need) = W3 at *
  have hM3 := hM1.ext hx3
  have k13 := k1.ext hx3
  have k23 := k2.ext hx3
  have hb3 := ext_trans hb1 hx3
  have HJ3 := Lib.hid (hJB [] W W3 hb3 h0)
  have Hlo := Lib.hid (show (p.th x.next).long = p.ts[j].long from by rw [hte])
  have Hne := Lib.hid (show (p.th x.next).need = p.ts[j].need from by rw [hte])
  have htl := hto.long
  have htn := hto.need
  rw [hte] at htl htn
  have hsz1 := hb1.size
  clear hM1 k1 k2 hb1 hx3 hsb eL eT hj hlj hte h0 hxi
  generalize p.ts[j].long = lo at *
  generalize p.ts[j].need = ne at *
  have hsb3 := hM3.sb
  unfold seC at hsb3
  have q0 : W3.cell? ⟨p.S, 0, none⟩ = _ := hsb3.cell (i := 0) rfl
  have u0 : W3.cell? ⟨b1, 0, none⟩ = _ := k13.cell (i := 0) rfl
  have hml := hs.many
  gi_wp2
  clear q0 u0 hsb3
  gi_loopw [29] (fun t wr => ∃ k : Nat, t = .int .i64 k ∧ k ≤ p.v.x.l.lanes.length ∧ J (wysTo p x k) wr ∧ KpC [p.I, p.M] W3 wr) (fun t _ => p.v.x.l.lanes.length - (intOf t).toNat)
  case atStart => exact ⟨0, rfl, by omega, HJ3.out, KpC.refl _ _⟩
  case round =>
    obtain ⟨k, rfl, hk, hJ, hkp⟩ := hrel
    have HJ := Lib.hid hJ
    clear hJ
    by_cases hkl : k < p.v.x.l.lanes.length
    · have hkl' : (k : Int) < (p.v.x.l.lanes.length : Int) := by omega
      have hMr := hM3.kp hkp
      have k1r := hkp.blk k13 n1
      have k2r := hkp.blk k23 n2
      have hTr := hkp.blk hT2 (by simp; omega)
      have k6 : k < 6 := by omega
      have hB6 := Blk.new wr 146 (staC x)
      have hx6 := ext_alloc wr (.cells (staC x).toArray 146)
      have hk2 := k2r
      unfold staC at hk2
      have q0 : wr.cell? ⟨b2, 0, none⟩ = _ := hk2.cell (i := 0) rfl
      have q1 : wr.cell? ⟨b2, 1, none⟩ = _ := hk2.cell (i := 1) rfl
      have q2 : wr.cell? ⟨b2, 2, none⟩ = _ := hk2.cell (i := 2) rfl
      have q3 : wr.cell? ⟨b2, 3, none⟩ = _ := hk2.cell (i := 3) rfl
      have q4 : wr.cell? ⟨b2, 4, none⟩ = _ := hk2.cell (i := 4) rfl
      have q5 : wr.cell? ⟨b2, 5, none⟩ = _ := hk2.cell (i := 5) rfl
      have q6 : wr.cell? ⟨b2, 6, none⟩ = _ := hk2.cell (i := 6) rfl
      have q7 : wr.cell? ⟨b2, 7, none⟩ = _ := hk2.cell (i := 7) rfl
      have q8 : wr.cell? ⟨b2, 8, none⟩ = _ := hk2.cell (i := 8) rfl
      have q9 : wr.cell? ⟨b2, 9, none⟩ = _ := hk2.cell (i := 9) rfl
      have q10 : wr.cell? ⟨b2, 10, none⟩ = _ := hk2.cell (i := 10) rfl
      have q11 : wr.cell? ⟨b2, 11, none⟩ = _ := hk2.cell (i := 11) rfl
      have q12 : wr.cell? ⟨b2, 12, none⟩ = _ := hk2.cell (i := 12) rfl
      gi_upto_region 5 with fail
      change Blk (wr.alloc (.cells #[.int .i64 x.next, .int .i64 (gz x.left 0), .int .i64 (gz x.left 1), .int .i64 (gz x.left 2), .int .i64 (gz x.left 3), .int .i64 (gz x.left 4), .int .i64 (gz x.left 5), .int .i64 (gz x.needs 0), .int .i64 (gz x.needs 1), .int .i64 (gz x.needs 2), .int .i64 (gz x.needs 3), .int .i64 (gz x.needs 4), .int .i64 (gz x.needs 5)] 146)) _ _ _ at hB6
      change Below wr.heap.size wr (wr.alloc (.cells #[.int .i64 x.next, .int .i64 (gz x.left 0), .int .i64 (gz x.left 1), .int .i64 (gz x.left 2), .int .i64 (gz x.left 3), .int .i64 (gz x.left 4), .int .i64 (gz x.left 5), .int .i64 (gz x.needs 0), .int .i64 (gz x.needs 1), .int .i64 (gz x.needs 2), .int .i64 (gz x.needs 3), .int .i64 (gz x.needs 4), .int .i64 (gz x.needs 5)] 146)) at hx6
      generalize wr.alloc (.cells #[.int .i64 x.next, .int .i64 (gz x.left 0), .int .i64 (gz x.left 1), .int .i64 (gz x.left 2), .int .i64 (gz x.left 3), .int .i64 (gz x.left 4), .int .i64 (gz x.left 5), .int .i64 (gz x.needs 0), .int .i64 (gz x.needs 1), .int .i64 (gz x.needs 2), .int .i64 (gz x.needs 3), .int .i64 (gz x.needs 4), .int .i64 (gz x.needs 5)] 146) = W4 at *
      clear q0 q1 q2 q3 q4 q5 q6 q7 q8 q9 q10 q11 q12
      clear hk2
      have y0 : W4.cell? ⟨wr.heap.size, 0, none⟩ = some (.int .i64 x.next) := hB6.cell (i := 0) rfl
      have f0 := hB6.free 0
      have hwlt := hB6.lt
      gi_upto_region 6 with fail
      have hB7 := hB6.set 0 (.int .i64 ((x.next : Int) + 1))
      rw [staC_setNext'] at hB7
      have hx7 : Below wr.heap.size wr _ := hx6.setCell (p := ⟨wr.heap.size, 0, none⟩) (Nat.le_refl _) (.int .i64 ((x.next : Int) + 1))
      clear y0 f0 hwlt hB6 hx6
      generalize W4.setCell ⟨wr.heap.size, 0, none⟩ (.int .i64 ((x.next : Int) + 1)) = W5 at *
      refine Dr.wpIn_region_plan rfl ?q6 9 [] (.q [0, 1, 2, 3, 4, 5, 6, 7, 8] .done) (by kernel_rfl) (by kernel_rfl) (by kernel_rfl) ?_
      case q6 => rintro ⟨_, _, ⟨_, hv⟩, -⟩; cases hv
      have hB8 := hB7.drew
      have hx8 := hx7.drew
      clear hB7 hx7
      generalize W5.drew = W6 at *
      have hL := staC_left ⟨x.next + 1, x.left, x.needs⟩ k6
      have hT6 := hTr.ext hx8
      have hlk := hx.left k
      have hlk : 0 ≤ gz x.left k ∧ gz x.left k ≤ 2000 := hlk
      have hcL := hB8.cell hL
      simp only at hcL
      have z0 := Dr.cell0 hcL
      have z1 := Dr.cell0 (hT6.cell (i := 0) rfl)
      have hk6' : (k : Int) < 6 := by omega
      refine Dr.plan_q (l := [_, _, _, _, _, _, _, _, _]) rfl (fun K hK => ?_)
      iterate 9 (go_big_quiet_step (fail))
      refine wpQuiet_nil (hK _ ?_); clear hK K
      clear z0 z1 hL
      have fL := hB8.free (1 + k)
      have hwlt := hB8.lt
      refine Dr.plan_done (tl := [_]) rfl ?_
      go_wp2
      have hB9 := hB8.set (1 + k) (.int .i64 (gz x.left k - lo))
      rw [staC_setL ⟨x.next + 1, x.left, x.needs⟩ hx.l6 k6] at hB9
      have hx9 : Below wr.heap.size wr _ := hx8.setCell (p := ⟨wr.heap.size, 1 + k, none⟩) (Nat.le_refl _) (.int .i64 (gz x.left k - lo))
      clear hB8 hx8 hcL fL hwlt hT6
      generalize W6.setCell ⟨wr.heap.size, 1 + k, none⟩ (.int .i64 (gz x.left k - lo)) = W7 at *
      have hsb7 := (hMr.ext hx9).sb
      unfold seC at hsb7
      have s9 := hsb7.cell (i := 9) rfl
      have v1 : W7.cell? ⟨b1, 0, none⟩ = _ := (k1r.ext hx9).cell (i := 0) rfl
      clear hsb7
      rcases hld : p.ld with _ | _
      · rw [hld] at s9
        have Hld := Lib.hid hld
        clear hld
        obtain ⟨y, hyd⟩ : ∃ y, y = (⟨x.next + 1, x.left.set k (gz x.left k - lo), x.needs⟩ : Sta) := ⟨_, rfl⟩
        rw [← hyd] at hB9
        have Hyn := Lib.hid (show lo ≤ gz x.left k → y = nxt p x k from fun _ => by rw [hyd]; unfold nxt stepN stepL; rw [Hld.out, Hlo.out]; rfl)
        have hyl : gz y.left k = gz x.left k - lo := by rw [hyd]; exact gz_set hx.l6 k6
        have hylc := hB9.cell (staC_left y k6)
        rw [hyl] at hylc
        have HyN := Lib.hid hyl
        clear hyd hyl
        have hwlt := hB9.lt
        have hkpV := hkp.trans (KpC.of (.of hx9))
        by_cases hc : lo ≤ gz x.left k
        · have Hcan := Lib.hid (show canB p.ld (p.th x.next) x.left x.needs k = true by unfold canB; rw [Hld.out, Hlo.out]; simpa [gz] using hc)
          have hWr : W.heap.size ≤ wr.heap.size := by have := hb3.size; have := hkp.size; omega
          have hJ' := hJB _ _ _ (hx9.mono hWr) HJ.out
          obtain ⟨fn, tmps, assign, body, hy, hR⟩ := hY (wysTo p x k) k W7 hJ' (wysTo_next Hcan.out (by exact hkl))
          rw [← Hyn.out hc] at hy
          unfold staV at hy
          have hB2 := hB9
          unfold staC at hB2
          have q0 : W7.cell? ⟨wr.heap.size, 0, none⟩ = _ := hB2.cell (i := 0) rfl
          have q1 : W7.cell? ⟨wr.heap.size, 1, none⟩ = _ := hB2.cell (i := 1) rfl
          have q2 : W7.cell? ⟨wr.heap.size, 2, none⟩ = _ := hB2.cell (i := 2) rfl
          have q3 : W7.cell? ⟨wr.heap.size, 3, none⟩ = _ := hB2.cell (i := 3) rfl
          have q4 : W7.cell? ⟨wr.heap.size, 4, none⟩ = _ := hB2.cell (i := 4) rfl
          have q5 : W7.cell? ⟨wr.heap.size, 5, none⟩ = _ := hB2.cell (i := 5) rfl
          have q6 : W7.cell? ⟨wr.heap.size, 6, none⟩ = _ := hB2.cell (i := 6) rfl
          have q7 : W7.cell? ⟨wr.heap.size, 7, none⟩ = _ := hB2.cell (i := 7) rfl
          have q8 : W7.cell? ⟨wr.heap.size, 8, none⟩ = _ := hB2.cell (i := 8) rfl
          have q9 : W7.cell? ⟨wr.heap.size, 9, none⟩ = _ := hB2.cell (i := 9) rfl
          have q10 : W7.cell? ⟨wr.heap.size, 10, none⟩ = _ := hB2.cell (i := 10) rfl
          have q11 : W7.cell? ⟨wr.heap.size, 11, none⟩ = _ := hB2.cell (i := 11) rfl
          have q12 : W7.cell? ⟨wr.heap.size, 12, none⟩ = _ := hB2.cell (i := 12) rfl
          have hc0 : (0 : Int) ≤ gz x.left k - lo := by omega
          clear hB2 hWr hJ'
          gi_wp2
          refine hR.mono ?_
          rintro e W9 (⟨rfl, hJ9, hk9⟩ | ⟨rfl, hJx⟩)
          · have HJ9 := Lib.hid hJ9
            have hkp9 := hkpV.trans hk9
            clear hJ9 hk9
            gi_wp2
            go_roundw
            case rel => exact ⟨k + 1, by go_num, by omega, by rw [wysTo_hit Hcan.out]; exact HJ9.out, hkp9⟩
            case measure => simp [intOf]; omega
          · have HJx := Lib.hid hJx
            clear hJx
            gi_wp2
            refine bodyPost_ret (results_none rfl _ _ _) rfl ?_
            exact ⟨⟨_, rfl⟩, .inr ⟨_, HJx.out⟩⟩
        · have Hcan := Lib.hid (show canB p.ld (p.th x.next) x.left x.needs k = false by unfold canB; rw [Hld.out, Hlo.out]; simpa [gz] using hc)
          have HJ' := Lib.hid (hJB _ _ _ (hx9.mono (by have := hb3.size; have := hkp.size; omega)) HJ.out)
          have hc0 : ¬ (0 : Int) ≤ gz x.left k - lo := by omega
          gi_wp2
          refine ⟨(fun f h => by cases h), ?_⟩
          gi_wp2
          go_roundw
          case rel => exact ⟨k + 1, by go_num, by omega, by rw [wysTo_miss Hcan.out]; exact HJ'.out, hkpV⟩
          case measure => simp [intOf]; omega
      · rw [hld] at s9
        have Hld := Lib.hid hld
        clear hld
        gi_upto_region 8 with fail
        refine Dr.wpIn_region_plan rfl ?q8 7 [] (.q [0, 1, 2, 3, 4, 5, 6] .done) (by kernel_rfl) (by kernel_rfl) (by kernel_rfl) ?_
        case q8 => rintro ⟨_, _, ⟨_, hv⟩, -⟩; cases hv
        have hB10 := hB9.drew
        have hx10 := hx9.drew
        clear hB9 hx9 s9 v1
        generalize W7.drew = W8 at *
        have hcN := (k2r.ext hx10).cell (staC_needs x k6)
        have z0 := Dr.cell0 hcN
        have z1 := Dr.cell0 ((hTr.ext hx10).cell (i := 3) rfl)
        refine Dr.plan_q (l := [_, _, _, _, _, _, _]) rfl (fun K hK => ?_)
        iterate 7 (go_big_quiet_step (fail))
        refine wpQuiet_nil (hK _ ?_); clear hK K
        clear z0 z1 hcN
        refine Dr.plan_end rfl ?_
        by_cases hn : gz x.needs k < ne
        · have Hcan := Lib.hid (show canB p.ld (p.th x.next) x.left x.needs k = false by unfold canB; rw [Hld.out, Hne.out, decide_eq_false (show ¬ ne ≤ x.needs.getD k 0 by unfold gz at hn; omega)]; rfl)
          have HJ' := Lib.hid (hJB _ _ _ (hx10.mono (by have := hb3.size; have := hkp.size; omega)) HJ.out)
          have hkpV := hkp.trans (KpC.of (.of hx10))
          gi_wp2
          go_roundw
          case rel => exact ⟨k + 1, by go_num, by omega, by rw [wysTo_miss Hcan.out]; exact HJ'.out, hkpV⟩
          case measure => simp [intOf]; omega
        · have Hn := Lib.hid (show ne ≤ x.needs.getD k 0 by unfold gz at hn; omega)
          have r0 := (hTr.ext hx10).cell (i := 3) rfl
          have r1 := hB10.cell (staC_needs ⟨x.next + 1, x.left.set k (gz x.left k - lo), x.needs⟩ k6)
          have f1 := hB10.free (7 + k)
          have hwlt := hB10.lt
          simp only at r1
          gi_upto_region 10 with fail
          have hB11 := hB10.set (7 + k) (.int .i64 ne)
          rw [staC_setN ⟨x.next + 1, x.left.set k (gz x.left k - lo), x.needs⟩ hx.n6 k6] at hB11
          have hx11 : Below wr.heap.size wr _ := hx10.setCell (p := ⟨wr.heap.size, 7 + k, none⟩) (Nat.le_refl _) (.int .i64 ne)
          clear hB10 hx10 r0 r1 f1 hwlt
          generalize W8.setCell ⟨wr.heap.size, 7 + k, none⟩ (.int .i64 ne) = W9 at *
          obtain ⟨y, hyd⟩ : ∃ y, y = (⟨x.next + 1, x.left.set k (gz x.left k - lo), x.needs.set k ne⟩ : Sta) := ⟨_, rfl⟩
          rw [← hyd] at hB11
          have Hyn := Lib.hid (show lo ≤ gz x.left k → y = nxt p x k from fun _ => by rw [hyd]; unfold nxt stepN stepL; rw [Hld.out, Hlo.out, Hne.out]; rfl)
          have hyl : gz y.left k = gz x.left k - lo := by rw [hyd]; exact gz_set hx.l6 k6
          have hylc := hB11.cell (staC_left y k6)
          rw [hyl] at hylc
          have HyN := Lib.hid hyl
          clear hyd hyl
          have hwlt := hB11.lt
          have hkpV := hkp.trans (KpC.of (.of hx11))
          by_cases hc : lo ≤ gz x.left k
          · have Hcan := Lib.hid (show canB p.ld (p.th x.next) x.left x.needs k = true by unfold canB; rw [Hld.out, Hlo.out, Hne.out, decide_eq_true Hn.out]; simpa [gz] using hc)
            have hWr : W.heap.size ≤ wr.heap.size := by have := hb3.size; have := hkp.size; omega
            have hJ' := hJB _ _ _ (hx11.mono hWr) HJ.out
            obtain ⟨fn, tmps, assign, body, hy, hR⟩ := hY (wysTo p x k) k W9 hJ' (wysTo_next Hcan.out (by exact hkl))
            rw [← Hyn.out hc] at hy
            unfold staV at hy
            have hB2 := hB11
            unfold staC at hB2
            have q0 : W9.cell? ⟨wr.heap.size, 0, none⟩ = _ := hB2.cell (i := 0) rfl
            have q1 : W9.cell? ⟨wr.heap.size, 1, none⟩ = _ := hB2.cell (i := 1) rfl
            have q2 : W9.cell? ⟨wr.heap.size, 2, none⟩ = _ := hB2.cell (i := 2) rfl
            have q3 : W9.cell? ⟨wr.heap.size, 3, none⟩ = _ := hB2.cell (i := 3) rfl
            have q4 : W9.cell? ⟨wr.heap.size, 4, none⟩ = _ := hB2.cell (i := 4) rfl
            have q5 : W9.cell? ⟨wr.heap.size, 5, none⟩ = _ := hB2.cell (i := 5) rfl
            have q6 : W9.cell? ⟨wr.heap.size, 6, none⟩ = _ := hB2.cell (i := 6) rfl
            have q7 : W9.cell? ⟨wr.heap.size, 7, none⟩ = _ := hB2.cell (i := 7) rfl
            have q8 : W9.cell? ⟨wr.heap.size, 8, none⟩ = _ := hB2.cell (i := 8) rfl
            have q9 : W9.cell? ⟨wr.heap.size, 9, none⟩ = _ := hB2.cell (i := 9) rfl
            have q10 : W9.cell? ⟨wr.heap.size, 10, none⟩ = _ := hB2.cell (i := 10) rfl
            have q11 : W9.cell? ⟨wr.heap.size, 11, none⟩ = _ := hB2.cell (i := 11) rfl
            have q12 : W9.cell? ⟨wr.heap.size, 12, none⟩ = _ := hB2.cell (i := 12) rfl
            have hc0 : (0 : Int) ≤ gz x.left k - lo := by omega
            clear hB2 hWr hJ'
            gi_wp2
            refine hR.mono ?_
            rintro e W10 (⟨rfl, hJ9, hk9⟩ | ⟨rfl, hJx⟩)
            · have HJ9 := Lib.hid hJ9
              have hkp9 := hkpV.trans hk9
              clear hJ9 hk9
              gi_wp2
              go_roundw
              case rel => exact ⟨k + 1, by go_num, by omega, by rw [wysTo_hit Hcan.out]; exact HJ9.out, hkp9⟩
              case measure => simp [intOf]; omega
            · have HJx := Lib.hid hJx
              clear hJx
              gi_wp2
              refine bodyPost_ret (results_none rfl _ _ _) rfl ?_
              exact ⟨⟨_, rfl⟩, .inr ⟨_, HJx.out⟩⟩
          · have Hcan := Lib.hid (show canB p.ld (p.th x.next) x.left x.needs k = false by unfold canB; rw [Hld.out, Hlo.out, Hne.out, decide_eq_true Hn.out]; simpa [gz] using hc)
            have HJ' := Lib.hid (hJB _ _ _ (hx11.mono (by have := hb3.size; have := hkp.size; omega)) HJ.out)
            have hc0 : ¬ (0 : Int) ≤ gz x.left k - lo := by omega
            gi_wp2
            refine ⟨(fun f h => by cases h), ?_⟩
            gi_wp2
            go_roundw
            case rel => exact ⟨k + 1, by go_num, by omega, by rw [wysTo_miss Hcan.out]; exact HJ'.out, hkpV⟩
            case measure => simp [intOf]; omega
    · obtain rfl : p.v.x.l.lanes.length = k := by omega
      gi_wp2
      go_end0
      exact ⟨⟨_, rfl⟩, .inl ⟨_, rfl, HJ.out⟩⟩
end
end Go.Proofs.Ytbpmfaibcibleaa

/- Walk: packed, of the document. (Printed by mk_pkda.py.) -/
import Derived.Test.YtbpmfaibcibleaaPkdP
import Derived.Test.YtbpmfaibcibleaaAppH
import Derived.Test.YtbpmfaibcibleaaSeaF
import Derived.Test.YtbpmfaibcibleaaLhpA
import Derived.Test.YtbpmfaibcibleaaOutQ
namespace Go.Wg
open Go.RowKit Go.Bs Go.Pl
/-- new rows -/
def RwN (lo : Nat) (A : Option Addr) (rs : List RwV) : Prop := (∀ k, A.map (·.block) = some k → lo ≤ k) ∧ ∀ x ∈ rs, ∀ k, x.A.map (·.block) = some k → lo ≤ k
/-- what packed returns -/
def PdR (lo : Nat) (res : Option (List (List Int))) (w : World) (e : Ending) (w' : World) : Prop :=
  Below w.heap.size w w' ∧ match res with
    | none => e = .returned (.tuple #[.slice none 0 0, .bool false])
    | some P => ∃ A c rs, e = .returned (.tuple #[.slice A rs.length c, .bool true]) ∧ rows rs = P ∧ RwM w' A rs ∧ RwN lo A rs
theorem PdR.no {lo : Nat} {res : Option (List (List Int))} {w w' : World} (h : res = none) (hb : Below w.heap.size w w') : PdR lo res w (.returned (.tuple #[.slice none 0 0, .bool false])) w' := by subst h; exact ⟨hb, rfl⟩
theorem PdR.yes {lo : Nat} {res : Option (List (List Int))} {P : List (List Int)} {w w' : World} {A : Option Addr} {c : Nat} {rs : List RwV} {n : Nat} (h : res = some P) (hn : rs.length = n) (hb : Below w.heap.size w w') (hr : rows rs = P) (hM : RwM w' A rs) (hN : RwN lo A rs) : PdR lo res w (.returned (.tuple #[.slice A n c, .bool true])) w' := by subst h; exact ⟨hb, A, c, rs, by rw [hn], hr, hM, hN⟩
theorem pre_set (P : List (List Int)) (y nl : Nat) (hP : P.length = nl) (hy : y < nl) (r : List Int) (hr : P.getD y [] = r) : (P.take y ++ List.replicate (nl - y) []).set y r = P.take (y + 1) ++ List.replicate (nl - (y + 1)) [] := by
  have hyP : y < P.length := by omega
  have e1 : nl - y = (nl - (y + 1)) + 1 := by omega
  have hl : (P.take y).length = y := by rw [List.length_take]; omega
  rw [e1, List.replicate_succ, List.set_append_right _ _ (by omega), hl, Nat.sub_self, List.set_cons_zero, List.take_succ_eq_append_getElem hyP, List.append_assoc]
  have : P[y] = r := by rw [← hr]; simp [List.getD, hyP]
  rw [this]; rfl
end Go.Wg
namespace Go.Proofs.Ytbpmfaibcibleaa
open Go.RowKit Go.Bs Go.Wg Go.Pl Go.Sort
/-- what the recursion does -/
def PdIH (lo : Nat) (A : Option Addr) (n c : Nat) (h ca em re ax dk : Int) (l : List Int) (T : Option Addr) (m cT : Nat) (ts : List Th) (B : Option Addr) (q cB : Nat) (lst : List Int) (ld : Bool) (k nl : Nat) (w : World) : Prop :=
  k < q → ∀ (N : Option Addr) (cN : Nat) (rs : List RwV) (W : World), Below w.heap.size w W → rs.length = nl → RwM W N rs → (rows rs).flatten.length = k + 1 → (∀ x ∈ rs, InR m x.r) → RwN lo N rs →
    Calls Try.prog 67 #[.agg #[.slice A n c, .int .i64 h, .int .i64 ca, .int .i64 em, .int .i64 re, .int .i64 ax, .int .i64 dk], .slice T m cT, .slice B q cB, .int .i64 ((k + 1 : Nat) : Int), .slice N nl cN, .bool ld] W (PdR lo (refp l ts ld (lst.drop (k + 1)) (rows rs)) W)
set_option maxRecDepth 100000 in
set_option maxHeartbeats 8000000 in
theorem packedR_step (lo : Nat) (A : Option Addr) (n c : Nat) (h ca em re ax dk : Int) (l : List Int) (T : Option Addr) (m cT : Nat) (ts : List Th) (B : Option Addr) (q cB : Nat) (lst : List Int) (ld : Bool) (k nl : Nat) (N : Option Addr) (cN : Nat) (rs : List RwV) (w : World) (hl : l.length = n) (hn6 : n ≤ 6) (hlb : ∀ z ∈ l, 1 ≤ z ∧ z ≤ 2000) (hd : Cells w A 1 Go.Bs.encI l) (hm : ts.length = m) (hok : ∀ t ∈ ts, t.Ok) (ht : Cells w T 4 Th.enc ts) (hq : lst.length = q) (hq1 : q ≤ 100) (hin : InR m lst) (hB : Cells w B 1 Go.Bs.encI lst)
    (hk : k ≤ q) (hnl : nl = n) (hr : rs.length = nl) (hM : RwM w N rs) (hf : (rows rs).flatten.length = k) (hri : ∀ x ∈ rs, InR m x.r) (hlo : lo ≤ w.heap.size) (hnw : RwN lo N rs) (IH0 : PdIH lo A n c h ca em re ax dk l T m cT ts B q cB lst ld k nl w) :
    Calls Try.prog 67 #[.agg #[.slice A n c, .int .i64 h, .int .i64 ca, .int .i64 em, .int .i64 re, .int .i64 ax, .int .i64 dk], .slice T m cT, .slice B q cB, .int .i64 (k : Int), .slice N nl cN, .bool ld] w (PdR lo (refp l ts ld (lst.drop k) (rows rs)) w) := by
  have Hl := Lib.hid hl
  have Hlb := Lib.hid hlb
  have Hd := Lib.hid hd
  have Hm := Lib.hid hm
  have Hok := Lib.hid hok
  have Ht := Lib.hid ht
  have Hq := Lib.hid hq
  have Hin := Lib.hid hin
  have HB := Lib.hid hB
  have Hr := Lib.hid hr
  have HM := Lib.hid hM
  have Hri := Lib.hid hri
  have IH := Lib.hid IH0
  have Hnw := Lib.hid hnw
  have hlen : ∀ x ∈ rs, x.r.length ≤ k := fun x hx => by
    have hs : x.r.Sublist (rows rs).flatten := List.sublist_flatten_of_mem (List.mem_map.2 ⟨x, hx, rfl⟩)
    have := hs.length_le
    omega
  have Hlen := Lib.hid hlen
  have Hf := Lib.hid hf
  have Hcap := Lib.hid hM.cap
  generalize hres : refp l ts ld (lst.drop k) (rows rs) = res at *
  have Hres := Lib.hid hres
  have hn6' : nl ≤ 6 := by omega
  have hnln : (nl : Int) = (n : Int) := by omega
  have Hnl := Lib.hid hnl
  clear hres hl hlb hd hm hok ht hq hin hB hr hM hri hlen hf IH0 hnl hnln hnw
  have hb := ext_alloc w (.cells #[.slice A n c, .int .i64 h, .int .i64 ca, .int .i64 em, .int .i64 re, .int .i64 ax, .int .i64 dk] 37)
  have hP := Blk.new w 37 [.slice A n c, .int .i64 h, .int .i64 ca, .int .i64 em, .int .i64 re, .int .i64 ax, .int .i64 dk]
  go_enter Try.func67, Try.ntmps67
  go_upto_region 1 with fail
  change Blk (w.alloc (.cells #[.slice A n c, .int .i64 h, .int .i64 ca, .int .i64 em, .int .i64 re, .int .i64 ax, .int .i64 dk] 37)) _ _ _ at hP
  change Below w.heap.size w (w.alloc (.cells #[.slice A n c, .int .i64 h, .int .i64 ca, .int .i64 em, .int .i64 re, .int .i64 ax, .int .i64 dk] 37)) at hb
  generalize w.alloc (.cells #[.slice A n c, .int .i64 h, .int .i64 ca, .int .i64 em, .int .i64 re, .int .i64 ax, .int .i64 dk] 37) = W0 at *
  by_cases hkq : k = q
  · have hkq' : ((k : Int) == (q : Int)) = true := by rw [beq_iff_eq]; omega
    have Hs := Lib.hid (show res = some (rows rs) by
      rw [← Hres.out, List.drop_of_length_le (by rw [Hq.out]; omega)]; rfl)
    have hMw := HM.out.ext hb
    clear hkq
    go_wp2
    go_ret2
    exact PdR.yes Hs.out Hr.out hb rfl hMw Hnw.out
  have hkq' : ((k : Int) == (q : Int)) = false := by rw [beq_eq_false_iff_ne]; omega
  have hklt : k < q := by omega
  have hklt' : (k : Int) < (q : Int) := by omega
  have hkl : k < lst.length := by rw [Hq.out]; exact hklt
  have hx := Hin.out _ (List.getElem_mem hkl)
  obtain ⟨j, hj⟩ : ∃ j : Nat, lst[k] = j := ⟨lst[k].toNat, by omega⟩
  have hjm : j < m := by omega
  have hjm' : (j : Int) < (m : Int) := by omega
  have hjt : j < ts.length := by rw [Hm.out]; exact hjm
  have Hres2 := Lib.hid (show res = (List.range nl).findSome? (tryF l ts ld (j : Int) (lst.drop (k + 1)) (rows rs)) by
    rw [← Hres.out, List.drop_eq_getElem_cons hkl, refp_cons, rows_len, Hr.out, hj])
  have Hj := Lib.hid hj
  have hto := Hok.out _ (List.getElem_mem hjt)
  have htl := hto.long
  have htn := hto.need
  have Hta := Lib.hid (thAt_eq hjt)
  clear hkq hx hj hto Hres
  generalize hres : res = res' at *
  clear hres
  obtain ⟨bB, oB, rfl, -, d0⟩ := (HB.out.ext hb).at1 hkl rfl
  obtain ⟨bT, oT, rfl, -, t0, t1, t2, t3⟩ := (Ht.out.ext hb).at4 hjt rfl
  rw [Hj.out] at d0
  generalize htj : ts[j] = tj at *
  have hN := Blk.new W0 62 [.int .i64 tj.long, .int .i64 tj.high, .int .i64 tj.mass, .int .i64 tj.need]
  have hxN := ext_alloc W0 (.cells #[.int .i64 tj.long, .int .i64 tj.high, .int .i64 tj.mass, .int .i64 tj.need] 62)
  go_upto_region 4 with fail
  change Blk (W0.alloc (.cells #[.int .i64 tj.long, .int .i64 tj.high, .int .i64 tj.mass, .int .i64 tj.need] 62)) _ _ _ at hN
  change Below W0.heap.size W0 (W0.alloc (.cells #[.int .i64 tj.long, .int .i64 tj.high, .int .i64 tj.mass, .int .i64 tj.need] 62)) at hxN
  clear d0 t0 t1 t2 t3
  generalize W0.alloc (.cells #[.int .i64 tj.long, .int .i64 tj.high, .int .i64 tj.mass, .int .i64 tj.need] 62) = W1 at *
  replace hP := hP.ext hxN
  replace hb := ext_trans hb hxN
  clear hxN
  have hsW := hb.size
  have hMw := HM.out.ext hb
  have hdw := Hd.out.ext hb
  have htw := Ht.out.ext hb
  have hBw := HB.out.ext hb
  have htlong : (thAt ts (j : Int)).long = tj.long := by rw [Hta.out]
  have htneed : (thAt ts (j : Int)).need = tj.need := by rw [Hta.out]
  have Htl := Lib.hid htlong
  have Htn := Lib.hid htneed
  clear htlong htneed htj Hta
  generalize hfd : tryF l ts ld (j : Int) (lst.drop (k + 1)) (rows rs) = f at *
  have Hfd := Lib.hid hfd
  clear hfd
  go_wp2
  go_loopw [15, 16, 17, 18, 19, 20, 21, 22] (fun a _ _ _ _ _ _ _ wr => ∃ z : Nat, a = .int .i64 z ∧ z ≤ nl ∧ Hid ((List.range z).findSome? f = none) ∧ Below W1.heap.size W1 wr) (fun a _ _ _ _ _ _ _ _ => nl - (intOf a).toNat)
  case atStart => exact ⟨0, rfl, by omega, Lib.hid rfl, Below.refl _ _⟩
  case round =>
    obtain ⟨z, rfl, hz, Hz, hbr⟩ := hrel
    by_cases hzl : z < nl
    case neg =>
      obtain rfl : z = nl := by omega
      have Hno := Lib.hid (show res' = none by rw [Hres2.out]; exact Hz.out)
      have hbf := ext_trans hb hbr
      go_wp2
      go_ret2
      exact PdR.no Hno.out hbf
    case pos =>
    have hzl' : (z : Int) < (nl : Int) := by omega
    have hzn : z < n := by have := Hnl.out; omega
    have hzn' : (z : Int) < (n : Int) := by omega
    have hzL : z < l.length := by rw [Hl.out]; exact hzn
    have hzr : z < rs.length := by rw [Hr.out]; exact hzl
    have Hnext := Lib.hid (show f z = none → (List.range (z + 1)).findSome? f = none from fun e => by rw [find_succ f z Hz.out]; exact e)
    have Hend := Lib.hid (show ∀ P, f z = some P → res' = some P from fun P e => by rw [Hres2.out]; exact find_more f (z := z + 1) (by omega) (by rw [find_succ f z Hz.out]; exact e))
    obtain ⟨bR, oR, rfl, -, r0⟩ := hMw.hdr.at1 hzr rfl
    have hrow := hMw.row _ (List.getElem_mem hzr)
    have hrin := Hri.out _ (List.getElem_mem hzr)
    have hrle := Hlen.out _ (List.getElem_mem hzr)
    have hrcap := Hcap.out _ (List.getElem_mem hzr)
    obtain ⟨bL, oL, rfl, -, l0⟩ := hdw.at1 hzL rfl
    have hlz := Hlb.out _ (List.getElem_mem hzL)
    have Hgl := Lib.hid (show l.getD z 0 = l[z] by simp [List.getD, hzL])
    have Hgr := Lib.hid (show (rows rs).getD z [] = rs[z].r by simp [rows, List.getD, hzr])
    have Hpar := Lib.hid (List.getElem_mem hzr)
    generalize l[z] = lz at *
    generalize rs[z] = x at *
    obtain ⟨xr, xA, xc⟩ := x
    simp only at *
    have Hbd := Lib.hid (fun y => longL_take_bd Hok.out (by rw [Hm.out]; exact hrin) y)
    generalize hxl : xr.length = e1 at *
    have Hxl := Lib.hid hxl
    have hpP := hP.cell (i := 0) rfl
    have r1 := Go.Bs.cell_ext r0 hbr
    have l1 := Go.Bs.cell_ext l0 hbr
    have p1 := Go.Bs.cell_ext hpP hbr
    have htr := htw.ext hbr
    have hrr := hrow.ext hbr
    have hNr := hN.ext hbr
    have hsR := hbr.size
    clear hxl hpP
    obtain ⟨w5, hw5⟩ : ∃ V, V = wr := ⟨_, rfl⟩
    subst hw5
    go_wp2
    clear l1 p1
    go_loop [16, 17] (fun s t => ∃ y : Nat, t = .int .i64 y ∧ y ≤ e1 ∧ s = .int .i64 (lz - longL ts (xr.take y))) (fun _ t => e1 - (intOf t).toNat)
    case atStart => exact ⟨0, rfl, by omega, by simp [longL, isum]⟩
    case round =>
      obtain ⟨y, rfl, hy, rfl⟩ := hrel
      have hbd := Hbd.out y
      have hbd2 : 0 ≤ longL ts (xr.take y) ∧ longL ts (xr.take y) ≤ 1000000 := by omega
      clear hbd
      by_cases hyl : y < e1
      · have hyl' : (y : Int) < (e1 : Int) := by omega
        have hy1 : y < xr.length := by rw [Hxl.out]; exact hyl
        obtain ⟨b3, off3, rfl, -, e0⟩ := hrr.at1 hy1 rfl
        have hxx := hrin _ (List.getElem_mem hy1)
        obtain ⟨i, hi⟩ : ∃ i : Nat, xr[y] = i := ⟨xr[y].toNat, by omega⟩
        have him : (i : Int) < (m : Int) := by omega
        have hit : i < ts.length := by have := Hm.out; omega
        have Hs := Lib.hid (longL_succ (ts := ts) hy1)
        rw [hi] at e0 Hs
        rw [thAt_eq hit] at Hs
        obtain ⟨b4, off4, eT, -, t0, -, -, -⟩ := htr.at4 hit rfl
        cases eT
        have hlo := (Hok.out _ (List.getElem_mem hit)).long
        clear hxx hi
        generalize ts[i].long = lo at *
        generalize longL ts (xr.take y) = L0 at *
        go_wp2
        go_round
        case rel => exact ⟨y + 1, by go_num, by omega, by rw [Hs.out]; exact int_congr (by omega)⟩
        case measure => simp [intOf]; omega
      · have hyt : xr.take y = xr := List.take_of_length_le (by rw [Hxl.out]; omega)
        rw [hyt] at hbd2
        rw [hyt]
        clear hyt
        have n0c : w5.cell? ⟨W0.heap.size, 0, none⟩ = _ := hNr.cell (i := 0) rfl
        have hNl := hNr.lt
        by_cases hroom : tj.long ≤ lz - longL ts xr
        case neg =>
          have hroom' : lz - longL ts xr < tj.long := by omega
          have Hn := Lib.hid (Hnext.out (by
            rw [← Hfd.out]
            unfold tryF rcan
            rw [Htl.out, Hgl.out, Hgr.out, decide_eq_false hroom]; rfl))
          generalize longL ts xr = L0 at *
          go_wp2
          go_roundw
          case rel => exact ⟨z + 1, by go_num, by omega, Hn, hbr⟩
          case measure => simp [intOf]; omega
        case pos =>
        have hroom' : ¬ lz - longL ts xr < tj.long := by omega
        have Hroom := Lib.hid hroom
        clear hroom
        obtain ⟨L0, hL0⟩ : ∃ L0, longL ts xr = L0 := ⟨_, rfl⟩
        rw [hL0] at hroom' hbd2 ⊢
        have HL0 := Lib.hid hL0
        clear hL0
        go_upto_block 4 with fail
        clear n0c
        go_cut [15, 16, 17, 18, 19, 20, 21, 22] from 35 to 160 (fun a _ _ p _ _ _ _ W => a = .int .i64 z ∧ ∃ pl : Nat, p = .int .i64 pl ∧ pl ≤ e1 ∧ Hid (∀ i, (hi : i < xr.length) → pl ≤ i → (thAt ts xr[i]).need < (thAt ts (j : Int)).need) ∧ Hid (∀ i, (hi : i < xr.length) → i + 1 = pl → (thAt ts (j : Int)).need ≤ (thAt ts xr[i]).need) ∧ Below w5.heap.size w5 W)
        case first =>
          go_wp2
          go_loopw [18] (fun p wi => ∃ pl : Nat, p = .int .i64 pl ∧ pl ≤ e1 ∧ Hid (∀ i, (hi : i < xr.length) → pl ≤ i → (thAt ts xr[i]).need < (thAt ts (j : Int)).need) ∧ Below w5.heap.size w5 wi) (fun p _ => (intOf p).toNat)
          case atStart => exact ⟨e1, rfl, Nat.le_refl _, Lib.hid (fun i hi h2 => by rw [Hxl.out] at hi; omega), Below.refl _ _⟩
          case round =>
            obtain ⟨pl, rfl, hpl, Hp1, hbi⟩ := hrel
            by_cases hp0 : pl = 0
            · subst hp0
              go_upto_region 14 with fail
              refine Dr.wp_region_plan 19 [] (.q [0, 1, 2, 3, 4, 5, 6, 7, 8, 9] (.q [10, 11, 12, 13, 14, 15, 16, 17, 18] .done)) (by kernel_rfl) (by kernel_rfl) ?_
              have hbj := hbi.drew
              generalize World.drew wr = wj at *
              with_reducible refine Dr.plan_q (l := [_, _, _, _, _, _, _, _, _, _]) (by with_unfolding_all exact rfl) (fun K hK => ?_)
              iterate 10 (go_big_quiet_step (fail))
              refine wpQuiet_nil (hK _ ?_); clear hK K
              with_reducible refine Dr.plan_q (l := [_, _, _, _, _, _, _, _, _]) (by with_unfolding_all exact rfl) (fun K hK => ?_)
              iterate 9 (go_big_quiet_step (fail))
              refine wpQuiet_nil (hK _ ?_); clear hK K
              refine Dr.plan_end rfl ?_
              go_wp2
              go_meet
              case rel => exact ⟨rfl, 0, rfl, by omega, Hp1, Lib.hid (fun i hi e => by omega), hbj⟩
            · obtain ⟨u, rfl⟩ : ∃ u, pl = u + 1 := ⟨pl - 1, by omega⟩
              have hux : u < xr.length := by rw [Hxl.out]; omega
              obtain ⟨b3, off3, rfl, -, e0⟩ := (hrr.ext hbi).at1 hux rfl
              have hxx := hrin _ (List.getElem_mem hux)
              obtain ⟨i, hi⟩ : ∃ i : Nat, xr[u] = i := ⟨xr[u].toNat, by omega⟩
              have him : (i : Int) < (m : Int) := by omega
              have hi0 : (0 : Int) ≤ (i : Int) := by omega
              have hit : i < ts.length := by have := Hm.out; omega
              obtain ⟨b4, off4, eT, -, -, -, -, t3⟩ := (htr.ext hbi).at4 hit rfl
              cases eT
              have Hu := Lib.hid (show (thAt ts xr[u]).need = ts[i].need by rw [hi, thAt_eq hit])
              rw [hi] at e0
              generalize ts[i].need = ni at *
              have c1 := Go.Bs.cell_ext r1 hbi
              have nn := (hNr.ext hbi).cell (i := 3) rfl
              have hNi := (hNr.ext hbi).lt
              have hu14 : u + 1 ≤ 200 := by omega
              have hsub : ((u + 1 : Nat) : Int) - 1 = (u : Int) := by omega
              have hpos : (0 : Int) < ((u + 1 : Nat) : Int) := by omega
              have hpos2 : 0 < u + 1 := by omega
              have hue : (u : Int) < (e1 : Int) := by have := Hxl.out; omega
              have hu0 : (0 : Int) ≤ (u : Int) := by omega
              clear hxx hi hp0
              go_upto_region 14 with fail
              refine Dr.wp_region_plan 19 [] (.q [0, 1, 2, 3, 4, 5, 6, 7, 8, 9] (.q [10, 11, 12, 13, 14, 15, 16, 17, 18] .done)) (by kernel_rfl) (by kernel_rfl) ?_
              have hbj := hbi.drew
              have g1 := Dr.cell0 (w := wr.drew) c1
              have g2 := Dr.cell0 (w := wr.drew) e0
              have g3 := Dr.cell0 (w := wr.drew) t3
              have g4 := Dr.cell0 (w := wr.drew) nn
              clear c1 e0 t3 nn hbi
              generalize World.drew wr = wj at *
              with_reducible refine Dr.plan_q (l := [_, _, _, _, _, _, _, _, _, _]) (by with_unfolding_all exact rfl) (fun K hK => ?_)
              iterate 10 (go_big_quiet_step (fail))
              refine wpQuiet_nil (hK _ ?_); clear hK K
              with_reducible refine Dr.plan_q (l := [_, _, _, _, _, _, _, _, _]) (by with_unfolding_all exact rfl) (fun K hK => ?_)
              iterate 9 (go_big_quiet_step (fail))
              refine wpQuiet_nil (hK _ ?_); clear hK K
              refine Dr.plan_end rfl ?_
              clear g1 g2 g3 g4
              by_cases hnn : ni < tj.need
              · have Hp2 := Lib.hid (show ∀ i, (hi : i < xr.length) → u ≤ i → (thAt ts xr[i]).need < (thAt ts (j : Int)).need from fun i hi h2 => by
                  by_cases e : i = u
                  · subst e; rw [Hu.out, Htn.out]; exact hnn
                  · exact Hp1.out i hi (by omega))
                go_wp2
                go_roundw
                case rel => exact ⟨u, rfl, by omega, Hp2, hbj⟩
                case measure => simp [intOf]
              · have hnn' : decide (ni < tj.need) = false := decide_eq_false hnn
                go_wp2
                go_meet
                case rel => exact ⟨rfl, u + 1, rfl, by omega, Hp1, Lib.hid (fun i hi e => by
                  have e2 : i = u := by omega
                  subst e2
                  rw [Hu.out, Htn.out]; omega), hbj⟩
        case rest =>
          obtain ⟨rfl, pl, rfl, hpl, Hp1, Hp2, hbc⟩ := hcut
          have Hzx := Lib.hid (show rs[z].r = xr by rw [← Hgr.out]; simp [rows, List.getD, hzr])
          have Hins := Lib.hid (ins1_at (ts := ts) (S := xr) (n := (j : Int)) (by rw [Hxl.out]; exact hpl) Hp1.out Hp2.out)
          have Hrc := Lib.hid (rcan_at (lanes := l) (ld := ld) Hgr.out (by rw [Hxl.out]; exact hpl) Hp1.out Hp2.out)
          rw [Htl.out, Hgl.out, Hxl.out] at Hrc
          have hrW := hrr.ext hbc
          have c1 := Go.Bs.cell_ext r1 hbc
          replace hNr := hNr.ext hbc
          replace hbr := hbr.trans (hbc.mono hbr.size)
          clear Hp1 Hp2 hrr htr r1
          by_cases hskip : ld = true ∧ pl < e1
          · obtain ⟨rfl, hpe⟩ := hskip
            have hpe' : (pl : Int) < (e1 : Int) := by omega
            have Hn := Lib.hid (Hnext.out (by
              rw [← Hfd.out]
              unfold tryF
              rw [Hrc.out, decide_eq_true hpe]; simp))
            go_wp2
            go_roundw
            case rel => exact ⟨z + 1, by go_num, by omega, Hn, hbr⟩
            case measure => simp [intOf]; omega
          have Hfz := Lib.hid (show f z = refp l ts ld (lst.drop (k + 1)) ((rows rs).set z (xr.take pl ++ (j : Int) :: xr.drop pl)) by
            rw [← Hfd.out]
            unfold tryF
            rw [Hrc.out, Hgr.out, Hins.out, if_pos]
            rw [decide_eq_true Hroom.out]
            cases ld
            · rfl
            · rw [decide_eq_false (fun e => hskip ⟨rfl, e⟩)]; rfl)
          go_upto_region 16 with fail
          go_cut [15, 16, 17, 18, 19, 20, 21, 22, 107] from 35 to 160 (fun a _ _ p _ _ _ _ b W => a = .int .i64 z ∧ p = .int .i64 pl ∧ b = .bool false ∧ W = wc)
          case first =>
            cases ld
            · go_wp2
              go_meet
              case rel => exact ⟨rfl, rfl, rfl, rfl⟩
            · have hpe : ¬ (pl : Int) < (e1 : Int) := fun e => hskip ⟨rfl, by omega⟩
              have hpe2 : ¬ pl < e1 := by omega
              go_wp2
              go_meet
              case rel => exact ⟨rfl, rfl, rfl, rfl⟩
          case rest =>
            obtain ⟨rfl, rfl, rfl, rfl⟩ := hcut
            have hmk := mk41 nl (by omega)
            have hnl0 : (0 : Int) ≤ (nl : Int) := by omega
            go_upto_region 18 with fail
            clear hmk
            have hrep : (Array.replicate nl (Value.slice none 0 0)) = (List.replicate nl (Value.slice none 0 0)).toArray := by simp
            rw [hrep]
            clear hrep
            have hO := Blk.new wc 35 (List.replicate nl (Value.slice none 0 0))
            have hxO := ext_alloc wc (.cells (List.replicate nl (Value.slice none 0 0)).toArray 35)
            have hJ0 := RwJ.start (b0 := wc.heap.size) hO (Nat.le_refl _)
            generalize wc.alloc (.cells (List.replicate nl (Value.slice none 0 0)).toArray 35) = X0 at *
            generalize hOe : wc.heap.size = O at *
            have HOe := Lib.hid hOe
            have hXb : Below wc.heap.size wc X0 := by rw [hOe]; exact hxO
            clear hO hxO hOe
            have hW1X := hbr.trans (hXb.mono hbr.size)
            have hMX := hMw.ext hW1X
            have hBX := hBw.ext hW1X
            have hsX := hW1X.size
            have Hf17 := Lib.hid (show O = wc.heap.size from HOe.out.symm)
            have hOlt : W1.heap.size ≤ O := by rw [Hf17.out]; exact hbr.size
            go_upto_block 6 with fail
            go_wp2
            go_loopw [20] (fun t wi => ∃ y : Nat, t = .int .i64 y ∧ y ≤ nl ∧ (∃ vs, RwJ O wi O ((rows rs).take y ++ List.replicate (nl - y) []) vs) ∧ Below O X0 wi) (fun t _ => nl - (intOf t).toNat)
            case atStart => exact ⟨0, rfl, by omega, ⟨_, by simpa using hJ0⟩, Below.refl _ _⟩
            case round =>
              clear hJ0
              obtain ⟨y, rfl, hy, ⟨vs, hJ⟩, hbi⟩ := hrel
              have hbW := hW1X.trans (hbi.mono hOlt)
              have hOX := hJ.blk.lt
              by_cases hyl : y < nl
              · have hyl' : (y : Int) < (nl : Int) := by omega
                have hyr : y < rs.length := by rw [Hr.out]; exact hyl
                obtain ⟨bq, oq, eN, -, c9⟩ := hMw.hdr.at1 hyr rfl
                cases eN
                replace c9 := Go.Bs.cell_ext c9 hbW
                have hrw := (hMw.row _ (List.getElem_mem hyr)).ext hbW
                have hrl := Hlen.out _ (List.getElem_mem hyr)
                have hgy : (rows rs).getD y [] = rs[y].r := by simp [rows, List.getD, hyr]
                have hpl2 : (rows rs).length = nl := by rw [rows_len, Hr.out]
                have Hps := Lib.hid (pre_set (rows rs) y nl hpl2 hyl _ hgy)
                have hPl : ((rows rs).take y ++ List.replicate (nl - y) ([] : List Int)).length = nl := by simp [hpl2]; omega
                have hvl : y < vs.length := by rw [hJ.len, hPl]; exact hyl
                obtain ⟨v0, hv0⟩ : ∃ v0, vs[y]? = some v0 := ⟨_, List.getElem?_eq_getElem hvl⟩
                clear hgy hpl2 hPl hvl
                generalize rs[y] = xq at *
                obtain ⟨yr, yA, yc⟩ := xq
                simp only at *
                generalize hyn : yr.length = yn at *
                have Hyn := Lib.hid hyn
                have Hv0 := Lib.hid hv0
                have hsO : O ≤ wr.heap.size := by omega
                have ho : OwnL wr O 3 1 Go.Bs.encI (.slice none 0 0) ([] : List Int) := OwnL.nil
                clear hyn hv0
                go_upto_region 21 with fail
                go_upto_region 20 with (at_builtin; refine app_ints 35 3 et35 rfl _ _ rfl O _ [] rfl ho yA yn yc yr Hyn.out rfl hrw (by simp; omega) hsO ?_; intro v' w' hown hb' hg hcase; rw [List.nil_append] at hown; have hg0 : wr.grownBy w' none := hg; have hBk : Blk w' O 35 vs := (hg0.block O hOX (by simp)).trans hJ.blk; have hOl := hBk.lt; have cc := hBk.cell Hv0.out; have ff := hBk.free y; obtain ⟨Av, cv, ev, -, -, -⟩ := hown.cells Go.Bs.encI_len; subst ev)
                have hJ2 := hJ.row Hv0.out hown (grown_any hg0) (by
                  rcases hcase with ⟨e, -⟩ | ⟨g9, cap9, e, h9⟩
                  · exact .inr (.inl (by rw [e]; rfl))
                  · rcases h9 with h9 | h9
                    · cases h9
                    · exact .inr (.inr ⟨g9, by rw [e]; rfl, by omega⟩))
                rw [Hps.out] at hJ2
                have hb2 : Below O X0 (w'.setCell ⟨O, y, none⟩ (.slice Av yr.length cv)) := (hbi.trans hb').trans ((Dr.Bel.store (M := [O]) (w := w') (p := ⟨O, y, none⟩) (by simp) _).old (by omega) (by simp))
                clear hJ hbi hb' hg hg0 hcase hBk hOl cc ff hown ho c9 hrw
                generalize w'.setCell ⟨O, y, none⟩ (.slice Av yr.length cv) = Y1 at *
                go_wp2
                go_roundw
                case rel => exact ⟨y + 1, by go_num, by omega, ⟨_, hJ2⟩, hb2⟩
                case measure => simp [intOf]; omega
              · obtain rfl : y = nl := by omega
                have hpl2 : (rows rs).length = y := by rw [rows_len, Hr.out]
                rw [Nat.sub_self, List.replicate_zero, List.append_nil, List.take_of_length_le (by omega)] at hJ
                obtain ⟨vz, hvz⟩ : ∃ vz, vs[z]? = some vz := ⟨_, List.getElem?_eq_getElem (show z < vs.length by rw [hJ.len, hpl2]; exact hzl)⟩
                have Hvz := Lib.hid hvz
                clear hvz
                have hcw : Below wc.heap.size wc wr := hXb.trans (by have h9 := hbi; rw [Hf17.out] at h9; exact h9)
                have c2 := Go.Bs.cell_ext c1 hcw
                have hrY := hrW.ext hcw
                obtain ⟨b8, o8, e8, -, d8⟩ := (hBw.ext hbW).at1 hkl rfl
                cases e8
                rw [Hj.out] at d8
                go_upto_region 22 with fail
                go_cut [15, 16, 17, 18, 19, 20, 21, 22] from 35 to 160 (fun a _ _ _ s _ _ _ W => a = .int .i64 z ∧ s = .slice (some ⟨O, 0, none⟩) y y ∧ (∃ vs, RwJ O W O ((rows rs).set z (xr.take pl ++ (j : Int) :: xr.drop pl)) vs) ∧ Below O X0 W)
                case first =>
                  refine Dr.Any.wp_region_plan 23 (Dr.Any.from_ wr.drew.heap.size) (.q [0, 1, 2, 3, 4, 5, 6, 7, 9, 10, 11, 12, 15, 16, 17, 18, 19, 20] (.e2 8 (.e1 13 (.e1 14 (.e1 21 (.q [22] .done)))) 13 (.e1 8 (.e1 14 (.e1 21 (.q [22] .done)))))) (by kernel_rfl) (by kernel_rfl) ?_
                  have hJY := hJ.ext (ext_drew wr)
                  have hbY : Below O X0 wr.drew := hbi.trans ((ext_drew wr).mono (by omega))
                  have g1 := Dr.cell0 (w := wr.drew) c2
                  have hrY2 : Cells wr.drew xA 1 Go.Bs.encI xr := hrY
                  have d8' : wr.drew.cell? ⟨bB, oB + k, none⟩ = some (.int .i64 (j : Int)) := d8
                  have c2' : wr.drew.cell? ⟨bR, oR + z, none⟩ = some (.slice xA e1 xc) := c2
                  clear hJ hbi c2 d8 hrY g1 hcw
                  generalize World.drew wr = Y0 at *
                  have q1 := Dr.Any.cls_cell (M := Dr.Any.from_ Y0.heap.size) c2' (by rw [Dr.Any.mem_from]; have := cell_lt c2'; simp only; omega)
                  have q2 := Dr.Any.cls_cell (M := Dr.Any.from_ Y0.heap.size) d8' (by rw [Dr.Any.mem_from]; have := cell_lt d8'; simp only; omega)
                  have hcut1 : ∀ wx, (Instr.slice 35 (.slice xA e1 xc) none (some (.int .i64 (pl : Int))) none).run Try.prog wx = .ok (.slice xA pl xc) wx := fun wx => by
                    have := run_cut_hi (P := Try.prog) Try.underlying35 sz3 xA e1 xc pl (by omega) wx
                    rw [cutA_zero] at this
                    exact this
                  obtain ⟨e2, he2⟩ : ∃ e2, e1 - pl = e2 := ⟨_, rfl⟩
                  have hcut2 : ∀ wx, (Instr.slice 35 (.slice xA e1 xc) (some (.int .i64 (pl : Int))) none none).run Try.prog wx = .ok (.slice (cutA xA 1 xc pl) e2 (xc - pl)) wx := fun wx => by
                    rw [← he2]
                    exact run_cut_lo (P := Try.prog) Try.underlying35 sz3 xA e1 xc pl hpl wx
                  have htk := Wg.Cells.take' hrY2 pl
                  have hdr : Cells Y0 (cutA xA 1 xc pl) 1 Go.Bs.encI (xr.drop pl) := by
                    have h9 := hrY2.cut (cap := xc) (lo := pl) (hi := e1) hpl hrcap
                    rw [List.take_of_length_le (by rw [List.length_drop, Hxl.out]; exact Nat.le_refl _)] at h9
                    exact h9
                  have Htl2 := Lib.hid (show (xr.take pl).length = pl by rw [List.length_take, Hxl.out]; omega)
                  have Hdl2 := Lib.hid (show (xr.drop pl).length = e2 by rw [List.length_drop, Hxl.out]; exact he2)
                  have he14 : e1 ≤ 200 := by omega
                  have he2b : e2 ≤ 200 := by omega
                  have hplb : pl ≤ 200 := by omega
                  clear he2
                  with_reducible refine Dr.Any.plan_q (l := [_, _, _, _, _, _, _, _, _, _, _, _, _, _, _, _, _, _]) (by with_unfolding_all exact rfl) (fun K hK => ?_)
                  iterate 18 (go_big_quiet_step (fail))
                  refine wpQuiet_nil (hK _ ?_); clear hK K
                  clear q1 q2 c2' d8' hrY2 hcut1 hcut2
                  have ho0 : OwnL Y0 Y0.heap.size 3 1 Go.Bs.encI (.slice none 0 0) ([] : List Int) := OwnL.nil
                  have hsz : Y0.heap.size ≤ Y0.heap.size := Nat.le_refl _
                  have hOY := hJY.blk.lt
                  refine Dr.Any.plan_e2 ?_ ?_
                  · refine Dr.Any.plan_e rfl (by rfl) (fun K hK => ?_)
                    refine app_row_op Go.Bs.encI 35 3 1 8 et35 (by decide) (by decide) Go.Bs.encI_len Go.Bs.encI_one _ _ rfl Y0.heap.size _ [] rfl ho0 xA pl xc (xr.take pl) Htl2.out rfl htk (by have := Htl2.out; first | (simp; omega) | simp) hsz (fun v1 U1 hoU1 hbU1 hgU1 => ?_)
                    refine hK _ _ (Dr.Any.Bel.grown hgU1 (fun k hk => (ho0.lt hk).1)) ?_; clear hK K
                    replace hsz := Nat.le_trans hsz hbU1.size
                    go_frame
                    have hn1 := Blk.new U1 3 [.int .i64 (j : Int)]
                    have hxb := ext_alloc U1 (.cells #[.int .i64 (j : Int)] 3)
                    refine Dr.Any.plan_e rfl (by rfl) (fun K hK => ?_)
                    go_wp2
                    refine hK _ _ (.of (ext_alloc _ _)) ?_; clear hK K
                    change Blk (U1.alloc (.cells #[.int .i64 (j : Int)] 3)) _ _ _ at hn1
                    change Below U1.heap.size U1 (U1.alloc (.cells #[.int .i64 (j : Int)] 3)) at hxb
                    generalize U1.alloc (.cells #[.int .i64 (j : Int)] 3) = U2 at *
                    replace hsz := Nat.le_trans hsz hxb.size
                    have ho2 := hoU1.ext hxb
                    have hnc : Cells U2 (some ⟨U1.heap.size, 0, none⟩) 1 Go.Bs.encI [(j : Int)] := IArr.cells (B := U1.heap.size) (T := 3) (l := [(j : Int)]) hn1
                    refine Dr.Any.plan_e rfl (by rfl) (fun K hK => ?_)
                    refine app_row_op Go.Bs.encI 35 3 1 8 et35 (by decide) (by decide) Go.Bs.encI_len Go.Bs.encI_one _ _ rfl Y0.heap.size _ ([] ++ xr.take pl) rfl ho2 (some ⟨U1.heap.size, 0, none⟩) 1 1 [(j : Int)] rfl rfl hnc (by have := Htl2.out; first | (simp; omega) | simp) hsz (fun v3 U3 hoU3 hbU3 hgU3 => ?_)
                    refine hK _ _ (Dr.Any.Bel.grown hgU3 (fun k hk => (ho2.lt hk).1)) ?_; clear hK K
                    replace hsz := Nat.le_trans hsz hbU3.size
                    go_frame
                    have hb3 : Below Y0.heap.size Y0 U3 := (hbU1.trans (hxb.mono hbU1.size)).trans hbU3
                    have hdr3 := hdr.ext hb3
                    refine Dr.Any.plan_e rfl (by rfl) (fun K hK => ?_)
                    refine app_row_op Go.Bs.encI 35 3 1 8 et35 (by decide) (by decide) Go.Bs.encI_len Go.Bs.encI_one _ _ rfl Y0.heap.size _ (([] ++ xr.take pl) ++ [(j : Int)]) rfl hoU3 (cutA xA 1 xc pl) e2 (xc - pl) (xr.drop pl) Hdl2.out rfl hdr3 (by have := Htl2.out; first | (simp; omega) | simp) hsz (fun v4 U4 hoU4 hbU4 hgU4 => ?_)
                    refine hK _ _ (Dr.Any.Bel.grown hgU4 (fun k hk => (hoU3.lt hk).1)) ?_; clear hK K
                    replace hsz := Nat.le_trans hsz hbU4.size
                    go_frame
                    obtain ⟨A5, c5, e5, -, -, -⟩ := hoU4.cells Go.Bs.encI_len
                    have hnew : (([] ++ xr.take pl) ++ [(j : Int)]) ++ xr.drop pl = xr.take pl ++ (j : Int) :: xr.drop pl := by simp
                    rw [hnew] at hoU4 e5
                    have hge := hoU4.block_ge e5
                    subst e5
                    generalize hLn : (xr.take pl ++ (j : Int) :: xr.drop pl).length = ln at *
                    have hbb : Below Y0.heap.size Y0 U4 := hb3.trans hbU4
                    have hJr := hJY.row (W' := U4) Hvz.out (hoU4.lower (by omega)) ⟨hbb.os, hbb.tape, hbb.output, hbb.size, fun k hk _ => hbb.block k hk⟩ (by
                      cases A5 with
                      | none => exact .inr (.inl rfl)
                      | some a => exact .inr (.inr ⟨a.block, rfl, (hge a.block rfl).1⟩))
                    have hBk := hJY.blk.ext hbb
                    have cc := hBk.cell Hvz.out
                    have ff := hBk.free z
                    have hOl := hBk.lt
                    have hbO : Below O X0 (U4.setCell ⟨O, z, none⟩ (.slice A5 ln c5)) := (hbY.trans (hbb.mono (by omega))).trans ((Dr.Bel.store (M := [O]) (w := U4) (p := ⟨O, z, none⟩) (by simp) _).old (by omega) (by simp))
                    with_reducible refine Dr.Any.plan_q (l := [_]) (by with_unfolding_all exact rfl) (fun K hK => ?_)
                    iterate 1 (go_big_quiet_step (fail))
                    refine wpQuiet_nil (hK _ ?_); clear hK K
                    refine Dr.Any.plan_done (tl := [_]) rfl ?_
                    go_wp2
                    generalize U4.setCell ⟨O, z, none⟩ (.slice A5 ln c5) = U9 at *
                    have HJr := Lib.hid hJr
                    clear hJr
                    go_meet
                    case rel => exact ⟨rfl, rfl, ⟨_, HJr.out⟩, hbO⟩
                  · have hn1 := Blk.new Y0 3 [.int .i64 (j : Int)]
                    have hxb := ext_alloc Y0 (.cells #[.int .i64 (j : Int)] 3)
                    refine Dr.Any.plan_e rfl (by rfl) (fun K hK => ?_)
                    go_wp2
                    refine hK _ _ (.of (ext_alloc _ _)) ?_; clear hK K
                    change Blk (Y0.alloc (.cells #[.int .i64 (j : Int)] 3)) _ _ _ at hn1
                    change Below Y0.heap.size Y0 (Y0.alloc (.cells #[.int .i64 (j : Int)] 3)) at hxb
                    generalize Y0.alloc (.cells #[.int .i64 (j : Int)] 3) = U1 at *
                    replace hsz := Nat.le_trans hsz hxb.size
                    have ho1 := ho0.ext hxb
                    have htk1 := htk.ext hxb
                    refine Dr.Any.plan_e rfl (by rfl) (fun K hK => ?_)
                    refine app_row_op Go.Bs.encI 35 3 1 8 et35 (by decide) (by decide) Go.Bs.encI_len Go.Bs.encI_one _ _ rfl Y0.heap.size _ [] rfl ho1 xA pl xc (xr.take pl) Htl2.out rfl htk1 (by have := Htl2.out; first | (simp; omega) | simp) hsz (fun v2 U2 hoU2 hbU2 hgU2 => ?_)
                    refine hK _ _ (Dr.Any.Bel.grown hgU2 (fun k hk => (ho1.lt hk).1)) ?_; clear hK K
                    replace hsz := Nat.le_trans hsz hbU2.size
                    go_frame
                    have hg2 : U1.grownBy U2 none := hgU2
                    have hnc : Cells U2 (some ⟨Y0.heap.size, 0, none⟩) 1 Go.Bs.encI [(j : Int)] := (IArr.cells (B := Y0.heap.size) (T := 3) (l := [(j : Int)]) hn1).ext (show Below U1.heap.size U1 U2 from ⟨hg2.os, hg2.tape, hg2.output, hg2.size, fun k hk => hg2.block k hk (by simp)⟩)
                    refine Dr.Any.plan_e rfl (by rfl) (fun K hK => ?_)
                    refine app_row_op Go.Bs.encI 35 3 1 8 et35 (by decide) (by decide) Go.Bs.encI_len Go.Bs.encI_one _ _ rfl Y0.heap.size _ ([] ++ xr.take pl) rfl hoU2 (some ⟨Y0.heap.size, 0, none⟩) 1 1 [(j : Int)] rfl rfl hnc (by have := Htl2.out; first | (simp; omega) | simp) hsz (fun v3 U3 hoU3 hbU3 hgU3 => ?_)
                    refine hK _ _ (Dr.Any.Bel.grown hgU3 (fun k hk => (hoU2.lt hk).1)) ?_; clear hK K
                    replace hsz := Nat.le_trans hsz hbU3.size
                    go_frame
                    have hb3 : Below Y0.heap.size Y0 U3 := (hxb.trans hbU2).trans hbU3
                    have hdr3 := hdr.ext hb3
                    refine Dr.Any.plan_e rfl (by rfl) (fun K hK => ?_)
                    refine app_row_op Go.Bs.encI 35 3 1 8 et35 (by decide) (by decide) Go.Bs.encI_len Go.Bs.encI_one _ _ rfl Y0.heap.size _ (([] ++ xr.take pl) ++ [(j : Int)]) rfl hoU3 (cutA xA 1 xc pl) e2 (xc - pl) (xr.drop pl) Hdl2.out rfl hdr3 (by have := Htl2.out; first | (simp; omega) | simp) hsz (fun v4 U4 hoU4 hbU4 hgU4 => ?_)
                    refine hK _ _ (Dr.Any.Bel.grown hgU4 (fun k hk => (hoU3.lt hk).1)) ?_; clear hK K
                    replace hsz := Nat.le_trans hsz hbU4.size
                    go_frame
                    obtain ⟨A5, c5, e5, -, -, -⟩ := hoU4.cells Go.Bs.encI_len
                    have hnew : (([] ++ xr.take pl) ++ [(j : Int)]) ++ xr.drop pl = xr.take pl ++ (j : Int) :: xr.drop pl := by simp
                    rw [hnew] at hoU4 e5
                    have hge := hoU4.block_ge e5
                    subst e5
                    generalize hLn : (xr.take pl ++ (j : Int) :: xr.drop pl).length = ln at *
                    have hbb : Below Y0.heap.size Y0 U4 := hb3.trans hbU4
                    have hJr := hJY.row (W' := U4) Hvz.out (hoU4.lower (by omega)) ⟨hbb.os, hbb.tape, hbb.output, hbb.size, fun k hk _ => hbb.block k hk⟩ (by
                      cases A5 with
                      | none => exact .inr (.inl rfl)
                      | some a => exact .inr (.inr ⟨a.block, rfl, (hge a.block rfl).1⟩))
                    have hBk := hJY.blk.ext hbb
                    have cc := hBk.cell Hvz.out
                    have ff := hBk.free z
                    have hOl := hBk.lt
                    have hbO : Below O X0 (U4.setCell ⟨O, z, none⟩ (.slice A5 ln c5)) := (hbY.trans (hbb.mono (by omega))).trans ((Dr.Bel.store (M := [O]) (w := U4) (p := ⟨O, z, none⟩) (by simp) _).old (by omega) (by simp))
                    with_reducible refine Dr.Any.plan_q (l := [_]) (by with_unfolding_all exact rfl) (fun K hK => ?_)
                    iterate 1 (go_big_quiet_step (fail))
                    refine wpQuiet_nil (hK _ ?_); clear hK K
                    refine Dr.Any.plan_done (tl := [_]) rfl ?_
                    go_wp2
                    generalize U4.setCell ⟨O, z, none⟩ (.slice A5 ln c5) = U9 at *
                    have HJr := Lib.hid hJr
                    clear hJr
                    go_meet
                    case rel => exact ⟨rfl, rfl, ⟨_, HJr.out⟩, hbO⟩
                case rest =>
                  obtain ⟨rfl, rfl, ⟨vs2, hJ3⟩, hb3⟩ := hcut
                  have hbW3 := hW1X.trans (hb3.mono hOlt)
                  obtain ⟨rs2, hrs2, hM2, hl2, hnw2⟩ := hJ3.rows
                  have hnw3 : RwN lo (some ⟨O, 0, none⟩) rs2 := ⟨fun k hk => by simp at hk; have := hb.size; omega, fun x hx k hk => by have := hnw2 x hx k hk; have := hb.size; omega⟩
                  have hl3 : rs2.length = y := by rw [hl2, List.length_set, hpl2]
                  have hfl : (rows rs2).flatten.length = k + 1 := by
                    have h9 := flat_set rs z ⟨xr.take pl ++ (j : Int) :: xr.drop pl, none, 0⟩ hzr
                    rw [Hzx.out, Hf.out] at h9
                    have h8 : rows (rs.set z ⟨xr.take pl ++ (j : Int) :: xr.drop pl, none, 0⟩) = (rows rs).set z (xr.take pl ++ (j : Int) :: xr.drop pl) := by unfold rows; rw [List.map_set]
                    rw [h8] at h9
                    rw [hrs2]
                    simp only [List.length_append, List.length_cons, List.length_take, List.length_drop] at h9
                    rw [Hxl.out] at h9
                    omega
                  have hin2 : ∀ x ∈ rs2, InR m x.r := fun x hx => by
                    have h9 : x.r ∈ (rows rs).set z (xr.take pl ++ (j : Int) :: xr.drop pl) := by rw [← hrs2]; exact List.mem_map.2 ⟨x, hx, rfl⟩
                    rcases List.mem_or_eq_of_mem_set h9 with h8 | h8
                    · obtain ⟨x2, h7, h6⟩ := List.mem_map.1 h8
                      rw [← h6]; exact Hri.out x2 h7
                    · rw [h8]
                      intro v hv
                      rcases List.mem_append.1 hv with h7 | h7
                      · exact hrin v (List.mem_of_mem_take h7)
                      · rcases List.mem_cons.1 h7 with h6 | h6
                        · rw [h6]; omega
                        · exact hrin v (List.mem_of_mem_drop h6)
                  have hbf := ext_trans hb hbW3
                  have CI := IH.out hklt (some ⟨O, 0, none⟩) y rs2 wc hbf hl3 hM2 hfl hin2 hnw3
                  rw [show ((k + 1 : Nat) : Int) = (k : Int) + 1 by omega, hrs2, ← Hfz.out] at CI
                  replace CI := Lib.hid CI
                  have hPc := hP.ext hbW3
                  clear hnw2 hnw3 hJ hJ3 hM2 hl2 hl3 hfl hin2 hrs2 hb3 IH hbi hrY c2 d8 hcw
                  have p0 : wc.cell? ⟨w.heap.size, 0, none⟩ = _ := hPc.cell rfl
                  have p1 : wc.cell? ⟨w.heap.size, 1, none⟩ = _ := hPc.cell rfl
                  have p2 : wc.cell? ⟨w.heap.size, 2, none⟩ = _ := hPc.cell rfl
                  have p3 : wc.cell? ⟨w.heap.size, 3, none⟩ = _ := hPc.cell rfl
                  have p4 : wc.cell? ⟨w.heap.size, 4, none⟩ = _ := hPc.cell rfl
                  have p5 : wc.cell? ⟨w.heap.size, 5, none⟩ = _ := hPc.cell rfl
                  have p6 : wc.cell? ⟨w.heap.size, 6, none⟩ = _ := hPc.cell rfl
                  go_wp2_with fail
                  refine CI.out.mono ?_; rintro e Wf ⟨hx, hres⟩
                  clear p0 p1 p2 p3 p4 p5 p6 hPc
                  cases hrf : f z with
                  | none =>
                    rw [hrf] at hres
                    subst hres
                    have Hn := Lib.hid (Hnext.out hrf)
                    have hbn := hbW3.trans (hx.mono hbW3.size)
                    clear hrf
                    go_wp2
                    go_roundw
                    case rel => exact ⟨z + 1, by go_num, by omega, Hn, hbn⟩
                    case measure => simp [intOf]; omega
                  | some P =>
                    rw [hrf] at hres
                    obtain ⟨A9, c9, rs9, rfl, hr9, hM9, hN9⟩ := hres
                    have He := Lib.hid (Hend.out P hrf)
                    have hbn := ext_trans hbf hx
                    clear hrf
                    go_wp2
                    go_ret2
                    exact PdR.yes He.out rfl hbn hr9 hM9 hN9
theorem packedR_any (lo : Nat) (A : Option Addr) (n c : Nat) (h ca em re ax dk : Int) (l : List Int) (T : Option Addr) (m cT : Nat) (ts : List Th) (B : Option Addr) (q cB : Nat) (lst : List Int) (ld : Bool) (nl : Nat) (hl : l.length = n) (hn6 : n ≤ 6) (hlb : ∀ z ∈ l, 1 ≤ z ∧ z ≤ 2000) (hm : ts.length = m) (hok : ∀ t ∈ ts, t.Ok) (hq : lst.length = q) (hq1 : q ≤ 100) (hin : InR m lst) (hnl : nl = n) : ∀ (e k : Nat) (N : Option Addr) (cN : Nat) (rs : List RwV) (w : World), k + e = q → Cells w A 1 Go.Bs.encI l → Cells w T 4 Th.enc ts → Cells w B 1 Go.Bs.encI lst → rs.length = nl → RwM w N rs → (rows rs).flatten.length = k → (∀ x ∈ rs, InR m x.r) → lo ≤ w.heap.size → RwN lo N rs →
    Calls Try.prog 67 #[.agg #[.slice A n c, .int .i64 h, .int .i64 ca, .int .i64 em, .int .i64 re, .int .i64 ax, .int .i64 dk], .slice T m cT, .slice B q cB, .int .i64 (k : Int), .slice N nl cN, .bool ld] w (PdR lo (refp l ts ld (lst.drop k) (rows rs)) w) := by
  intro e
  induction e with
  | zero =>
    intro k N cN rs w hke hd ht hB hr hM hf hri hlo hnw
    exact packedR_step lo A n c h ca em re ax dk l T m cT ts B q cB lst ld k nl N cN rs w hl hn6 hlb hd hm hok ht hq hq1 hin hB (by omega) hnl hr hM hf hri hlo hnw fun h5 => absurd h5 (by omega)
  | succ e ih =>
    intro k N cN rs w hke hd ht hB hr hM hf hri hlo hnw
    exact packedR_step lo A n c h ca em re ax dk l T m cT ts B q cB lst ld k nl N cN rs w hl hn6 hlb hd hm hok ht hq hq1 hin hB (by omega) hnl hr hM hf hri hlo hnw fun _ N' cN' rs' W hW hr' hM' hf' hri' hnw' =>
      ih (k + 1) N' cN' rs' W (by omega) (hd.ext hW) (ht.ext hW) (hB.ext hW) hr' hM' hf' hri' (Nat.le_trans hlo hW.size) hnw'
end Go.Proofs.Ytbpmfaibcibleaa

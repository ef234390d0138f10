/- Walks: Stops, and Stops of the document. (Printed by mk_stpa.py.) -/
import Derived.Test.YtbpmfaibcibleaaAxrA
import Derived.Test.YtbpmfaibcibleaaLhpF
namespace Go.Wg
open Go.RowKit Go.Bs Go.Pl
/-- does a bridge stop a lorry with things that have these numbers? -/
def stpB (j : Lo) (ts : List Th) (F : List Int) (b : Br) : Bool := decide (b.limit < j.empty + massL ts F) || decide (b.clear < j.deck + highL ts F)
def stopsTo (j : Lo) (ts : List Th) (F : List Int) (bs : List Br) (k : Nat) : List Int := (upto k).filter fun i => stpB j ts F (bs.getD i.toNat ⟨0, 0⟩)
theorem upto_succ (k : Nat) : upto (k + 1) = upto k ++ [(k : Int)] := by unfold upto; rw [List.range_succ, List.map_append]; rfl
theorem stopsTo_succ (j : Lo) (ts : List Th) (F : List Int) (bs : List Br) (k : Nat) (hk : k < bs.length) : stopsTo j ts F bs (k + 1) = if stpB j ts F bs[k] then stopsTo j ts F bs k ++ [(k : Int)] else stopsTo j ts F bs k := by
  unfold stopsTo
  rw [upto_succ, List.filter_append]
  have e : bs.getD (k : Int).toNat ⟨0, 0⟩ = bs[k] := by simp [List.getD, hk]
  by_cases h : stpB j ts F bs[k] = true
  · rw [if_pos h, List.filter_cons_of_pos (by rw [e]; exact h)]; rfl
  · rw [if_neg h, List.filter_cons_of_neg (by rw [e]; exact h)]; simp
theorem stopsTo_len (j : Lo) (ts : List Th) (F : List Int) (bs : List Br) (k : Nat) : (stopsTo j ts F bs k).length ≤ k := by
  unfold stopsTo
  have := List.length_filter_le (fun i => stpB j ts F (bs.getD i.toNat ⟨0, 0⟩)) (upto k)
  rw [upto_len] at this
  exact this
def stopsL (j : Lo) (ts : List Th) (p : List (List Int)) (bs : List Br) : List Int := stopsTo j ts p.flatten bs bs.length
/-- what Stops returns -/
def stopVal (j : Lo) (ts : List Th) (p : List (List Int)) (bs : List Br) : List Int × Int :=
  if checkE j ts ≠ 0 then ([], checkE j ts) else if rightB j ts p = false then ([], 9) else if roadE bs ≠ 0 then ([], roadE bs) else (stopsL j ts p bs, 0)
def StR (j : Lo) (ts : List Th) (p : List (List Int)) (bs : List Br) (w : World) (e : Ending) (w' : World) : Prop :=
  Below w.heap.size w w' ∧ ∃ v, e = .returned (.tuple #[v, .int .i64 (stopVal j ts p bs).2]) ∧ RowAt' w' v (stopVal j ts p bs).1
where
  RowAt' (W : World) (v : Value) (l : List Int) : Prop := ∃ A c, v = .slice A l.length c ∧ Cells W A 1 Go.Bs.encI l
theorem StR.mk {j : Lo} {ts : List Th} {p : List (List Int)} {bs : List Br} {w w' : World} {A : Option Addr} {c : Nat} {l : List Int} {n : Nat} {q : Int} (h : stopVal j ts p bs = (l, q)) (hn : l.length = n) (hb : Below w.heap.size w w') (hv : Cells w' A 1 Go.Bs.encI l) : StR j ts p bs w (.returned (.tuple #[.slice A n c, .int .i64 q])) w' := ⟨hb, _, by rw [h], by rw [h]; exact ⟨A, c, by rw [hn], hv⟩⟩
theorem roadE_zero {bs : List Br} : roadE bs = 0 ↔ bs.length ≤ 30 ∧ bs.all Br.okB = true := by
  unfold roadE
  by_cases h : 30 < bs.length
  · rw [if_pos h]; constructor
    · intro e; cases e
    · intro e; omega
  · rw [if_neg h]
    cases bs.all Br.okB
    · simp
    · simp; omega
theorem br_bd {b : Br} (h : b.okB = true) : (0 ≤ b.limit ∧ b.limit ≤ 300000) ∧ 0 ≤ b.clear ∧ b.clear ≤ 600 := by
  unfold Br.okB btw at h
  simp only [Bool.and_eq_true, decide_eq_true_eq] at h
  exact h
end Go.Wg
namespace Go.Proofs.Ytbpmfaibcibleaa
open Go.RowKit Go.Bs Go.Wg Go.Pl Go.Sort
theorem br_ok (l : List Br) (w : World) : PredF Try.prog 83 #[] #[] Br.val Br.okB w l := by
  intro W x hx hb
  obtain ⟨a, b⟩ := x
  have C1 := Lib.hid (fun W => within_any a 0 300000 W)
  have C2 := Lib.hid (fun W => within_any b 0 600 W)
  show Calls Try.prog 83 #[.agg #[.int .i64 a, .int .i64 b]] W fun e w' => e = .returned (.bool (btw a 0 300000 && btw b 0 600)) ∧ Below W.heap.size W w'
  generalize btw a 0 300000 = b1 at *
  generalize btw b 0 600 = b2 at *
  clear hx hb
  have hb0 := ext_alloc W (.cells #[.int .i64 a, .int .i64 b] 101)
  have hP := Blk.new W 101 [.int .i64 a, .int .i64 b]
  go_enter Try.func83, Try.ntmps83
  go_upto_region 1 with fail
  change Blk (W.alloc (.cells #[.int .i64 a, .int .i64 b] 101)) _ _ _ at hP
  generalize W.alloc (.cells #[.int .i64 a, .int .i64 b] 101) = W0 at *
  have c0 : W0.cell? ⟨W.heap.size, 0, none⟩ = _ := hP.cell rfl
  have c1 : W0.cell? ⟨W.heap.size, 1, none⟩ = _ := hP.cell rfl
  have hlt := hP.lt
  clear hP
  go_wp2_with fail
  refine (C1.out _).mono ?_; rintro e w1 ⟨rfl, rfl⟩
  cases b1
  · go_wp2
    go_ret
    exact ⟨rfl, hb0⟩
  go_wp2_with fail
  refine (C2.out _).mono ?_; rintro e w1 ⟨rfl, rfl⟩
  cases b2
  · go_wp2
    go_ret
    exact ⟨rfl, hb0⟩
  · go_wp2
    go_ret
    exact ⟨rfl, hb0⟩
set_option maxRecDepth 100000 in
set_option maxHeartbeats 4000000 in
theorem StopsR_any (A : Option Addr) (n c : Nat) (h ca em re ax dk : Int) (L : List Int) (T : Option Addr) (m cT : Nat) (ts : List Th) (R : Option Addr) (k cR : Nat) (rs : List RwV) (B : Option Addr) (q cB : Nat) (bs : List Br) (w : World)
    (hm : ts.length = m) (ht : Cells w T 4 Th.enc ts) (hk : rs.length = k) (hM : RwM w R rs) (hq : bs.length = q) (hB : Cells w B 2 Br.enc bs) (hO : checkE ⟨L, h, ca, em, re, ax, dk⟩ ts = 0) (hR : rightB ⟨L, h, ca, em, re, ax, dk⟩ ts (rows rs) = true) (hroad : roadE bs = 0) :
    Calls Try.prog 58 #[.agg #[.slice A n c, .int .i64 h, .int .i64 ca, .int .i64 em, .int .i64 re, .int .i64 ax, .int .i64 dk], .slice T m cT, .slice R k cR, .slice B q cB] w fun e w' => (∃ A2 c2, e = .returned (.slice A2 (stopsL ⟨L, h, ca, em, re, ax, dk⟩ ts (rows rs) bs).length c2) ∧ Cells w' A2 1 Go.Bs.encI (stopsL ⟨L, h, ca, em, re, ax, dk⟩ ts (rows rs) bs)) ∧ Below w.heap.size w w' := by
  have HO := Lib.hid (checkE_zero.1 hO)
  have HR := Lib.hid (right_iff.1 hR)
  obtain ⟨hq30, hball⟩ := roadE_zero.1 hroad
  have Hball := Lib.hid (fun b hb => br_bd (List.all_eq_true.1 hball b hb))
  have Hm := Lib.hid hm
  have Hq := Lib.hid hq
  have hk6 : k ≤ 6 := by
    have h1 := HR.out.many
    rw [rows_len, hk] at h1
    have h2 := HO.out.1.many
    simp only at h1 h2
    omega
  have hm14 : m ≤ 14 := by have := HO.out.2.1; omega
  rw [hq] at hq30
  have hin : InR m (rows rs).flatten := fun y hy => by rw [← hm]; exact mem_upto.1 (HR.out.perm.mem_iff.1 hy)
  have Hin := Lib.hid hin
  have hfl : (rows rs).flatten.length ≤ 14 := by
    have h1 := HR.out.perm.length_eq
    rw [upto_len] at h1
    omega
  have hml := massL_bd HO.out.2.2 (by rw [hm]; exact hin)
  have hml2 : 0 ≤ massL ts (rows rs).flatten ∧ massL ts (rows rs).flatten ≤ 1400000 := by omega
  have hhl := highL_bd HO.out.2.2 _ (by rw [hm]; exact hin)
  have C1 := Lib.hid (fun V (hV : Below w.heap.size w V) => allR_any R k cR rs V hk (by omega) (hM.ext hV) (by omega))
  have C2 := Lib.hid (fun V (hV : Below w.heap.size w V) (A1 : Option Addr) (n1 c1 : Nat) (l : List Int) => fun a b c d => Masses_any T m cT ts A1 n1 c1 l V hm HO.out.2.2 (ht.ext hV) a b c d)
  have C3 := Lib.hid (fun V (hV : Below w.heap.size w V) (A1 : Option Addr) (n1 c1 : Nat) (l : List Int) => fun a b c d => Highest_any T m cT ts A1 n1 c1 l V hm (ht.ext hV) a b c d)
  have HB := Lib.hid hB
  have hem := HO.out.1.empty
  have hdk := HO.out.1.deck
  simp only at hem hdk
  have Hst := Lib.hid (fun z (hz : z < bs.length) => stopsTo_succ ⟨L, h, ca, em, re, ax, dk⟩ ts (rows rs).flatten bs z hz)
  have Hsl := Lib.hid (fun z => stopsTo_len ⟨L, h, ca, em, re, ax, dk⟩ ts (rows rs).flatten bs z)
  unfold stopsL
  rw [hq]
  have Hs0 := Lib.hid (show stopsTo ⟨L, h, ca, em, re, ax, dk⟩ ts (rows rs).flatten bs 0 = [] from rfl)
  unfold stpB at Hst
  simp only at Hst
  generalize stopsTo ⟨L, h, ca, em, re, ax, dk⟩ ts (rows rs).flatten bs = St at *
  generalize (rows rs).flatten = F at *
  clear hm hk hM ht hO hR hq hB hroad hball hin hml
  generalize hMA : massL ts F = MA at *
  generalize hHI : highL ts F = HI at *
  have HMA := Lib.hid hMA
  have HHI := Lib.hid hHI
  clear hMA hHI
  have hb := ext_alloc w (.cells #[.slice A n c, .int .i64 h, .int .i64 ca, .int .i64 em, .int .i64 re, .int .i64 ax, .int .i64 dk] 37)
  have hP := Blk.new w 37 [.slice A n c, .int .i64 h, .int .i64 ca, .int .i64 em, .int .i64 re, .int .i64 ax, .int .i64 dk]
  go_enter Try.func58, Try.ntmps58
  go_upto_region 1 with fail
  change Blk (w.alloc (.cells #[.slice A n c, .int .i64 h, .int .i64 ca, .int .i64 em, .int .i64 re, .int .i64 ax, .int .i64 dk] 37)) _ _ _ at hP
  change Below w.heap.size w (w.alloc (.cells #[.slice A n c, .int .i64 h, .int .i64 ca, .int .i64 em, .int .i64 re, .int .i64 ax, .int .i64 dk] 37)) at hb
  generalize w.alloc (.cells #[.slice A n c, .int .i64 h, .int .i64 ca, .int .i64 em, .int .i64 re, .int .i64 ax, .int .i64 dk] 37) = W0 at *
  go_wp2
  go_loopw [9, 10] (fun s t wr => ∃ z : Nat, t = .int .i64 z ∧ z ≤ q ∧ OwnL wr W0.heap.size 3 1 Go.Bs.encI s (St z) ∧ Below W0.heap.size W0 wr) (fun _ t _ => q - (intOf t).toNat)
  case atStart => exact ⟨0, rfl, by omega, by rw [Hs0.out]; exact OwnL.nil, Below.refl _ _⟩
  case round =>
    obtain ⟨z, rfl, hz, ho, hbr⟩ := hrel
    by_cases hlt : z < q
    · have hlt' : (z : Int) < (q : Int) := by omega
      have hz1 : z < bs.length := by rw [Hq.out]; exact hlt
      have hz0 : (0 : Int) ≤ (z : Int) := by omega
      have Hst1 := Lib.hid (Hst.out z hz1)
      have hsl := Hsl.out z
      have hbb := Hball.out _ (List.getElem_mem hz1)
      go_upto_region 5 with fail
      refine Dr.wp_region_plan 28 [] (.q [0, 1, 2, 3, 7, 8, 9, 10, 11] (.e1 4 (.e1 5 (.q [6, 12, 13, 14, 15, 16, 17, 21, 22, 23, 24, 25] (.e1 18 (.e1 19 (.q [20, 26, 27] .done))))))) (by kernel_rfl) (by kernel_rfl) ?_
      have hbd := ext_trans hb (hbr.drew)
      have hPd := (hP.ext hbr).drew
      replace ho := ho.drew
      have hbr0 := hbr.drew
      clear hbr
      generalize World.drew wr = V0 at *
      have q3 := Dr.cell0 (hPd.cell (i := 3) rfl)
      obtain ⟨b4, off4, rfl, -, d0, d1⟩ := (HB.out.ext hbd).at2 hz1 rfl
      generalize bs[z].limit = lim at *
      generalize bs[z].clear = clr at *
      have e0 := Dr.cell0 d0
      have D1 := Lib.hid d1
      with_reducible refine Dr.plan_q (l := [_, _, _, _, _, _, _, _, _]) (by with_unfolding_all exact rfl) (fun K hK => ?_)
      iterate 9 (go_big_quiet_step (fail))
      refine wpQuiet_nil (hK _ ?_); clear hK K
      clear q3 e0 d0 d1
      refine Dr.plan_e rfl (by rfl) (fun K hK => ?_)
      go_wp2_with fail
      refine (C1.out _ hbd).mono ?_; rintro e V1 ⟨v1, rfl, ho1, hx⟩
      refine hK _ _ (.of hx) ?_; clear hK K
      obtain ⟨A1, c1, rfl, -, -, hc1⟩ := ho1.cells Go.Bs.encI_len
      replace hbd := ext_trans hbd hx
      replace hPd := hPd.ext hx
      replace ho := ho.ext hx
      replace hbr0 := hbr0.trans (hx.mono hbr0.size)
      have hxx := hx
      have CM1 := Lib.hid (C2.out _ hbd A1 F.length c1 F rfl (by omega) Hin.out hc1)
      rw [HMA.out] at CM1
      clear hx ho1 hc1
      refine Dr.plan_e rfl (by rfl) (fun K hK => ?_)
      go_wp2_with fail
      refine (CM1.out).mono ?_; rintro e V2 ⟨rfl, rfl⟩
      refine hK _ _ (.refl _ _) ?_; clear hK K
      clear CM1
      have q6 := Dr.cell0 (hPd.cell (i := 6) rfl)
      have e1 := Dr.cell0 (Go.Bs.cell_ext D1.out hxx)
      by_cases hlm : lim < em + MA
      case pos =>
        have hs : St (z + 1) = St z ++ [(z : Int)] := by rw [Hst1.out, decide_eq_true hlm, Bool.true_or, if_pos rfl]
        have Hs := Lib.hid hs
        clear hs Hst1
        with_reducible refine Dr.plan_q (l := [_, _, _, _, _, _, _, _, _, _, _, _]) (by with_unfolding_all exact rfl) (fun K hK => ?_)
        iterate 12 (go_big_quiet_step (fail))
        refine wpQuiet_nil (hK _ ?_); clear hK K
        refine Dr.plan_e_skip rfl (by rfl) ?_; go_frame
        refine Dr.plan_e_skip rfl (by rfl) ?_; go_frame
        with_reducible refine Dr.plan_q (l := [_, _, _]) (by with_unfolding_all exact rfl) (fun K hK => ?_)
        iterate 3 (go_big_quiet_step (fail))
        refine wpQuiet_nil (hK _ ?_); clear hK K
        refine Dr.plan_end rfl ?_
        clear q6 e1
        go_upto_region 4 with (at_builtin; refine app1 Go.Bs.encI 35 3 1 8 et35 (by decide) (by decide) Go.Bs.encI_len Go.Bs.encI_one rfl _ _ rfl W0.heap.size _ (St z) rfl (ho.alloc _) V1.heap.size rfl (z : Int) (Go.Bs.encI_cell ((Blk.new V1 3 [.int .i64 (z : Int)]).cell rfl)) (by have := hsl; omega) (by have := hbr0.size; simp; omega) ?_; intro g' cap' V2 hown2 hb2 _ _)
        have hbr2 := hbr0.trans (((ext_alloc V1 (.cells #[.int .i64 (z : Int)] 3)).mono hbr0.size).trans hb2)
        go_wp2
        go_roundw
        case rel => exact ⟨z + 1, by go_num, by omega, by rw [Hs.out]; exact hown2, hbr2⟩
        case measure => simp [intOf]; omega
      case neg =>
      have hlm' : ¬ lim < em + MA := hlm
      with_reducible refine Dr.plan_q (l := [_, _, _, _, _, _, _, _, _, _, _, _]) (by with_unfolding_all exact rfl) (fun K hK => ?_)
      iterate 12 (go_big_quiet_step (fail))
      refine wpQuiet_nil (hK _ ?_); clear hK K
      clear q6 e1
      refine Dr.plan_e rfl (by rfl) (fun K hK => ?_)
      go_wp2_with fail
      refine (C1.out _ hbd).mono ?_; rintro e V3 ⟨v3, rfl, ho3, hx⟩
      refine hK _ _ (.of hx) ?_; clear hK K
      obtain ⟨A3, c3, rfl, -, -, hc3⟩ := ho3.cells Go.Bs.encI_len
      replace hbd := ext_trans hbd hx
      replace ho := ho.ext hx
      replace hbr0 := hbr0.trans (hx.mono hbr0.size)
      have CM3 := Lib.hid (C3.out _ hbd A3 F.length c3 F rfl (by omega) Hin.out hc3)
      rw [HHI.out] at CM3
      clear hx ho3 hc3
      refine Dr.plan_e rfl (by rfl) (fun K hK => ?_)
      go_wp2_with fail
      refine (CM3.out).mono ?_; rintro e V4 ⟨rfl, rfl⟩
      refine hK _ _ (.refl _ _) ?_; clear hK K
      clear CM3
      with_reducible refine Dr.plan_q (l := [_, _, _]) (by with_unfolding_all exact rfl) (fun K hK => ?_)
      iterate 3 (go_big_quiet_step (fail))
      refine wpQuiet_nil (hK _ ?_); clear hK K
      refine Dr.plan_end rfl ?_
      by_cases hcl : clr < dk + HI
      · have hs : St (z + 1) = St z ++ [(z : Int)] := by rw [Hst1.out, decide_eq_true hcl, Bool.or_true, if_pos rfl]
        have Hs := Lib.hid hs
        clear hs Hst1
        go_upto_region 4 with (at_builtin; refine app1 Go.Bs.encI 35 3 1 8 et35 (by decide) (by decide) Go.Bs.encI_len Go.Bs.encI_one rfl _ _ rfl W0.heap.size _ (St z) rfl (ho.alloc _) V3.heap.size rfl (z : Int) (Go.Bs.encI_cell ((Blk.new V3 3 [.int .i64 (z : Int)]).cell rfl)) (by have := hsl; omega) (by have := hbr0.size; simp; omega) ?_; intro g' cap' V2 hown2 hb2 _ _)
        have hbr2 := hbr0.trans (((ext_alloc V3 (.cells #[.int .i64 (z : Int)] 3)).mono hbr0.size).trans hb2)
        go_wp2
        go_roundw
        case rel => exact ⟨z + 1, by go_num, by omega, by rw [Hs.out]; exact hown2, hbr2⟩
        case measure => simp [intOf]; omega
      · have hs : St (z + 1) = St z := by rw [Hst1.out, decide_eq_false (show ¬ clr < dk + HI by omega), decide_eq_false (show ¬ lim < em + MA by omega), Bool.or_false, if_neg (by decide)]
        have Hs := Lib.hid hs
        clear hs Hst1
        go_wp2
        go_roundw
        case rel => exact ⟨z + 1, by go_num, by omega, by rw [Hs.out]; exact ho, hbr0⟩
        case measure => simp [intOf]; omega
    · obtain rfl : z = q := by omega
      obtain ⟨A1, c1, rfl, -, -, hc1⟩ := ho.cells Go.Bs.encI_len
      have hbf := ext_trans hb hbr
      go_wp2
      go_ret
      exact ⟨⟨A1, c1, rfl, hc1⟩, hbf⟩
end Go.Proofs.Ytbpmfaibcibleaa

/- Walks: ref.all, Whole, Right (of the document). -/
import Derived.Test.YtbpmfaibcibleaaWaD
import Derived.Test.YtbpmfaibcibleaaLhpA
import Derived.Test.YtbpmfaibcibleaaWhoP
import Derived.Test.YtbpmfaibcibleaaSeaF
import Derived.Test.YtbpmfaibcibleaaLhpG
/- Walk: all, of the reference: the rows in one. -/
namespace Go.Proofs.Ytbpmfaibcibleaa
open Go.RowKit Go.Bs Go.Wg Go.Pl Go.Sort
set_option maxHeartbeats 1000000 in
theorem allR_any (A : Option Addr) (n c : Nat) (rs : List RwV) (w : World) (hn : rs.length = n) (hm : n ≤ 1000000) (hM : RwM w A rs) (hl : (rows rs).flatten.length ≤ 1000000) :
    Calls Try.prog 81 #[.slice A n c] w fun e w' => ∃ v, e = .returned v ∧ OwnL w' w.heap.size 3 1 Go.Bs.encI v (rows rs).flatten ∧ Below w.heap.size w w' := by
  have Hn := Lib.hid hn
  have Hl := Lib.hid (fun k => Nat.le_trans (flat_take_le rs k) hl)
  have Hend := Lib.hid (show (rows (rs.take n)).flatten = (rows rs).flatten by rw [List.take_of_length_le (by omega)])
  have HM := Lib.hid hM
  clear hn hl hM
  go_enter Try.func81, Try.ntmps81
  go_wp2
  go_loopw [3, 4] (fun s t wr => ∃ k : Nat, t = .int .i64 k ∧ k ≤ n ∧ OwnL wr w.heap.size 3 1 Go.Bs.encI s (rows (rs.take k)).flatten ∧ Below w.heap.size w wr) (fun _ t _ => n - (intOf t).toNat)
  case atStart => exact ⟨0, rfl, by omega, OwnL.nil, Below.refl _ _⟩
  case round =>
    obtain ⟨k, rfl, hk, ho, hb⟩ := hrel
    by_cases hlt : k < n
    · have hlt' : (k : Int) < (n : Int) := by omega
      have hk1 : k < rs.length := by rw [Hn.out]; exact hlt
      have hM1 := HM.out.ext hb
      obtain ⟨b, off, rfl, -, c0⟩ := hM1.hdr.at1 hk1 rfl
      have hrow := hM1.row _ (List.getElem_mem hk1)
      have Hf := Lib.hid (flat_snoc hk1)
      have hL1 := Hl.out (k + 1)
      rw [flat_snoc hk1, List.length_append] at hL1
      have HL1 := Lib.hid hL1
      have hsz := hb.size
      clear hM1 hL1
      generalize (rows (rs.take k)).flatten = L2 at *
      generalize rs[k] = x at *
      go_wp2_with (at_builtin; refine app_ints 35 3 et35 rfl _ _ rfl w.heap.size _ L2 rfl ho x.A _ x.c x.r rfl rfl hrow (by have := HL1.out; omega) hsz ?_; intro v' w' ho' hb' _ _)
      rw [← Hf.out] at ho'
      have hb2 := hb.trans hb'
      clear hb'
      go_wp2
      go_roundw
      case rel => exact ⟨k + 1, by go_num, by omega, ho', hb2⟩
      case measure => simp [intOf]; omega
    · obtain rfl : n = k := by omega
      rw [Hend.out] at ho
      go_wp2
      go_ret
      exact ⟨_, rfl, ho, hb⟩
end Go.Proofs.Ytbpmfaibcibleaa

/- Walk: Whole. (Printed by mk_lhpi.py.) -/
namespace Go.Wg
open Go.RowKit Go.Bs Go.Pl
def cnt (F : List Int) (j : Nat) : Nat → Int := fun i => (((F.take j).count (i : Int) : Nat) : Int)
theorem cnt_succ {F : List Int} {j i : Nat} (hj : j < F.length) (e : F[j] = i) : upd (cnt F j) i (cnt F j i + 1) = cnt F (j + 1) := by
  funext z
  unfold upd cnt
  rw [List.take_succ_eq_append_getElem hj, e, List.count_append]
  by_cases hz : z = i
  · subst hz; rw [if_pos rfl]; simp
  · rw [if_neg hz, List.count_singleton]
    have : ((i : Int) == (z : Int)) = false := by simp; omega
    rw [this]; simp
theorem cnt_bd (F : List Int) (j i : Nat) : 0 ≤ cnt F j i ∧ cnt F j i ≤ j := by
  have h1 := List.count_le_length (a := (i : Int)) (l := F.take j)
  have h2 : (F.take j).length ≤ j := by rw [List.length_take]; omega
  unfold cnt
  omega
end Go.Wg
namespace Go.Proofs.Ytbpmfaibcibleaa
open Go.RowKit Go.Bs Go.Wg Go.Pl Go.Sort
set_option maxRecDepth 100000 in
set_option maxHeartbeats 2000000 in
theorem Whole_any (A : Option Addr) (n c : Nat) (h ca em re ax dk : Int) (T : Option Addr) (m cT : Nat) (R : Option Addr) (k cR : Nat) (rs : List RwV) (w : World) (hm : m ≤ 1000000) (hk : rs.length = k) (hk1 : k ≤ 1000000) (hM : RwM w R rs) (hF : (rows rs).flatten.length ≤ 1000000) :
    Calls Try.prog 80 #[.agg #[.slice A n c, .int .i64 h, .int .i64 ca, .int .i64 em, .int .i64 re, .int .i64 ax, .int .i64 dk], .slice T m cT, .slice R k cR] w fun e w' => e = .returned (.bool (wholeB m (rows rs) && decide (k = n))) ∧ Below w.heap.size w w' := by
  have hb := ext_alloc w (.cells #[.slice A n c, .int .i64 h, .int .i64 ca, .int .i64 em, .int .i64 re, .int .i64 ax, .int .i64 dk] 37)
  have hP := Blk.new w 37 [.slice A n c, .int .i64 h, .int .i64 ca, .int .i64 em, .int .i64 re, .int .i64 ax, .int .i64 dk]
  have HM := Lib.hid (fun V (hV : Below w.heap.size w V) => allR_any R k cR rs V hk hk1 (hM.ext hV) hF)
  unfold wholeB
  generalize (rows rs).flatten = F at *
  generalize hres : (decide (srtL F = upto m) && decide (k = n)) = res
  have Hres := Lib.hid hres
  clear hres hM hk
  go_enter Try.func80, Try.ntmps80
  go_upto_region 1 with fail
  change Blk (w.alloc (.cells #[.slice A n c, .int .i64 h, .int .i64 ca, .int .i64 em, .int .i64 re, .int .i64 ax, .int .i64 dk] 37)) _ _ _ at hP
  change Below w.heap.size w (w.alloc (.cells #[.slice A n c, .int .i64 h, .int .i64 ca, .int .i64 em, .int .i64 re, .int .i64 ax, .int .i64 dk] 37)) at hb
  generalize w.alloc (.cells #[.slice A n c, .int .i64 h, .int .i64 ca, .int .i64 em, .int .i64 re, .int .i64 ax, .int .i64 dk] 37) = W0 at *
  have hG := Blk.new W0 3 ((tab m fun _ => 0).map (Value.int .i64))
  have hx1 := ext_alloc W0 (.cells ((tab m fun _ => 0).map (Value.int .i64)).toArray 3)
  have hmk := mk35 m hm
  have hm0 : (0 : Int) ≤ m := by omega
  have hPl := hP.lt
  go_upto_region 2 with fail
  clear hmk
  change IArr _ _ _ _ at hG
  generalize W0.alloc (.cells ((tab m fun _ => 0).map (Value.int .i64)).toArray 3) = W1 at *
  replace hb := ext_trans hb hx1
  replace hP := hP.ext hx1
  clear hx1
  go_wp2_with fail
  refine (HM.out W1 hb).mono ?_; rintro e W2 ⟨v, rfl, ho, hx⟩
  obtain ⟨A2, c2, rfl, -, -, hc⟩ := ho.cells Go.Bs.encI_len
  have hub := ho.block_ge rfl
  have hGl := Wg.IArr.lt' hG
  replace hG := hG.ext hx
  replace hP := hP.ext hx
  replace hb := ext_trans hb hx
  clear HM ho hx
  have hG0 : IArr W2 W0.heap.size 3 (tab m (cnt F 0)) := hG
  clear hG
  generalize hN : F.length = N at *
  have HN := Lib.hid hN
  clear hN
  have HU := Lib.hid hub
  clear hub
  go_wp2
  go_loopw [9] (fun t wr => ∃ j : Nat, t = .int .i64 j ∧ j ≤ N ∧ Hid (InR m (F.take j)) ∧ IArr wr W0.heap.size 3 (tab m (cnt F j)) ∧ Dr.Bel [W0.heap.size] W2 wr) (fun t _ => N - (intOf t).toNat)
  case atStart => exact ⟨0, rfl, by omega, Lib.hid (by intro x hx; simp at hx), hG0, Dr.Bel.refl _ _⟩
  case round =>
    clear hG0
    obtain ⟨j, rfl, hj, Hin, hG, hbl⟩ := hrel
    have hcr := Dr.cells_bel hc hbl (fun b e => by have h1 := HU.out b e; simp; omega)
    by_cases hlt : j < N
    · have hlt' : (j : Int) < N := by omega
      have hjl : j < F.length := by rw [HN.out]; exact hlt
      obtain ⟨b, off, rfl, -, d0⟩ := hcr.at1 hjl rfl
      obtain ⟨x, hxe⟩ : ∃ x, F[j] = x := ⟨_, rfl⟩
      rw [hxe] at d0
      have C := Lib.hid (fun V => In_any x 0 ((m : Int) - 1) V)
      by_cases hin : 0 ≤ x ∧ x < m
      · obtain ⟨i, rfl⟩ : ∃ i : Nat, x = i := ⟨x.toNat, by omega⟩
        have him : i < m := by omega
        have him' : (i : Int) < (m : Int) := by omega
        have hbt : btw (i : Int) 0 ((m : Int) - 1) = true := by simp [btw]; omega
        rw [hbt] at C
        clear hbt
        have Hin2 := Lib.hid (show InR m (F.take (j + 1)) by
          rw [List.take_succ_eq_append_getElem hjl, hxe]
          intro z hz
          rcases List.mem_append.1 hz with h5 | h5
          · exact Hin.out z h5
          · rw [List.mem_singleton.1 h5]; exact hin)
        have cG := hG.cell (tab_get (cnt F j) him)
        have fG := hG.free i
        have hG2 := hG.set i (cnt F j i + 1)
        rw [tab_set, cnt_succ hjl hxe] at hG2
        have hbl2 := hbl.put (p := ⟨W0.heap.size, i, none⟩) (by simp) (.int .i64 (cnt F j i + 1))
        have hcb := cnt_bd F j i
        have hNs : j ≤ 1000000 := by have h1 := HN.out; omega
        have hGlr := Wg.IArr.lt' hG
        clear hxe hin hG hbl hcr
        generalize cnt F j i = y at *
        go_wp2_with fail
        refine (C.out _).mono ?_; rintro e V1 ⟨rfl, rfl⟩
        go_wp2
        generalize World.setCell _ ⟨W0.heap.size, i, none⟩ (.int .i64 (y + 1)) = V2 at *
        go_roundw
        case rel => exact ⟨j + 1, by go_num, by omega, Hin2, hG2, hbl2⟩
        case measure => simp [intOf]; omega
      · have hbt : btw x 0 ((m : Int) - 1) = false := by simp [btw]; omega
        rw [hbt] at C
        have Hr := Lib.hid (show false = res by
          rw [← Hres.out]
          have h5 : ¬ srtL F = upto m := fun e => hin ((whole_iff.1 e).1 x (by rw [← hxe]; exact List.getElem_mem hjl))
          rw [decide_eq_false h5]; rfl)
        have hbf := hb.trans (hbl.old hb.size (by simp; omega))
        clear hbt hxe hin
        go_wp2_with fail
        refine (C.out _).mono ?_; rintro e V1 ⟨rfl, rfl⟩
        go_wp2
        go_ret
        exact ⟨ret_congr (bool_congr Hr.out), hbf⟩
    · obtain rfl : j = N := by omega
      have hFt : F.take j = F := List.take_of_length_le (by rw [HN.out]; omega)
      have HI := Lib.hid (show InR m F by rw [← hFt]; exact Hin.out)
      have hce : ∀ z, cnt F j z = ((F.count (z : Int) : Nat) : Int) := fun z => by unfold cnt; rw [hFt]
      have Hce := Lib.hid hce
      obtain ⟨V3, hV⟩ : ∃ V, V = wr := ⟨_, rfl⟩
      subst hV
      have hP3 := hbl.blk hP (by simp; omega)
      have hbf := hb.trans (hbl.old hb.size (by simp; omega))
      clear hce hFt hlt hj hcr hbl hP hb hc Hin
      have q0 : V3.cell? ⟨w.heap.size, 0, none⟩ = _ := hP3.cell rfl
      generalize cnt F j = f at *
      go_wp2
      go_loop [10] (fun t => ∃ i : Nat, t = .int .i64 i ∧ i ≤ m ∧ Hid (∀ z, z < i → f z = 1)) (fun t => m - (intOf t).toNat)
      case atStart => exact ⟨0, rfl, by omega, Lib.hid (by omega)⟩
      case round =>
        obtain ⟨i, rfl, hi, Hi⟩ := hrel
        by_cases hlt : i < m
        · have hlt' : (i : Int) < m := by omega
          have cG := hG.cell (tab_get f hlt)
          by_cases hy : f i = 1
          · have Hi2 := Lib.hid (show ∀ z, z < i + 1 → f z = 1 from fun z hz => by
              by_cases e : z = i
              · rw [e]; exact hy
              · exact Hi.out z (by omega))
            have hy2 : (f i != 1) = false := by simp [hy]
            rw [hy] at cG
            clear hy hy2
            go_wp2
            go_round
            case rel => exact ⟨i + 1, by go_num, by omega, Hi2⟩
            case measure => simp [intOf]; omega
          · have Hr := Lib.hid (show false = res by
              rw [← Hres.out]
              have h5 : ¬ srtL F = upto m := fun e => hy (by rw [Hce.out, (whole_iff.1 e).2 i hlt]; rfl)
              rw [decide_eq_false h5]; rfl)
            generalize f i = y at *
            have hy2 : (y != 1) = true := by simp [hy]
            clear hy
            go_wp2
            go_ret
            exact ⟨ret_congr (bool_congr Hr.out), hbf⟩
        · obtain rfl : i = m := by omega
          have Hr := Lib.hid (show decide (k = n) = res by
            rw [← Hres.out]
            have h5 : srtL F = upto i := whole_iff.2 ⟨HI.out, fun z hz => by
              have h6 := Hce.out z
              rw [Hi.out z hz] at h6
              omega⟩
            rw [decide_eq_true h5, Bool.true_and])
          have Hr2 := Lib.hid (show decide ((k : Int) = (n : Int)) = res by rw [← Hr.out]; exact decide_eq_decide.2 (by omega))
          go_wp2
          go_ret
          exact ⟨ret_congr (bool_congr (by first | exact Hr.out | exact Hr2.out)), hbf⟩
end Go.Proofs.Ytbpmfaibcibleaa

/- Walk: Right, of the document. -/
namespace Go.Wg
open Go.RowKit Go.Bs Go.Pl
theorem massL_perm {ts : List Th} {a b : List Int} (h : a.Perm b) : massL ts a = massL ts b := by
  unfold massL
  induction h with
  | nil => rfl
  | cons x _ ih => simp only [List.map_cons, isum, ih]
  | swap x y l => simp only [List.map_cons, isum]; omega
  | trans _ _ h1 h2 => rw [h1, h2]
theorem foldmax_perm (f : Int → Int) {a b : List Int} (h : a.Perm b) : ∀ z, a.foldl (fun m n => max m (f n)) z = b.foldl (fun m n => max m (f n)) z := by
  induction h with
  | nil => intro z; rfl
  | cons x _ ih => intro z; exact ih _
  | swap x y l => intro z; simp only [List.foldl_cons]; congr 1; omega
  | trans _ _ h1 h2 => intro z; rw [h1, h2]
theorem highL_perm {ts : List Th} {a b : List Int} (h : a.Perm b) : highL ts a = highL ts b := foldmax_perm _ h 0
theorem whole_perm {n : Nat} {p : List (List Int)} (h : wholeB n p = true) : p.flatten.Perm (upto n) := by
  unfold wholeB at h
  rw [decide_eq_true_eq] at h
  rw [← h]; exact (srtL_perm _).symm
theorem zip_bad {ts : List Th} {p : List (List Int)} {L : List Int} (h : p.length = L.length) {i : Nat} (hi : i < p.length) (hb : laneB ts (L.getD i 0) (p.getD i []) = false) : (p.zip L).all (fun x => laneB ts x.2 x.1) = false := by
  rw [Bool.eq_false_iff]
  intro e
  rw [(zip_all h).1 e i hi] at hb
  cases hb
end Go.Wg
namespace Go.Proofs.Ytbpmfaibcibleaa
open Go.RowKit Go.Bs Go.Wg Go.Pl Go.Sort
set_option maxRecDepth 100000 in
set_option maxHeartbeats 4000000 in
theorem RightR_any (A : Option Addr) (n c : Nat) (h ca em re ax dk : Int) (L : List Int) (T : Option Addr) (m cT : Nat) (ts : List Th) (R : Option Addr) (k cR : Nat) (rs : List RwV) (w : World) (hL : L.length = n) (hn : n ≤ 1000000) (hLc : Cells w A 1 Go.Bs.encI L)
    (hm : ts.length = m) (h14 : m ≤ 1000) (hok : ∀ t ∈ ts, t.Ok) (ht : Cells w T 4 Th.enc ts) (hk : rs.length = k) (hk1 : k ≤ 1000000) (hM : RwM w R rs) (hF : (rows rs).flatten.length ≤ 1000000) :
    Calls Try.prog 51 #[.agg #[.slice A n c, .int .i64 h, .int .i64 ca, .int .i64 em, .int .i64 re, .int .i64 ax, .int .i64 dk], .slice T m cT, .slice R k cR] w fun e w' => e = .returned (.bool (rightB ⟨L, h, ca, em, re, ax, dk⟩ ts (rows rs))) ∧ Below w.heap.size w w' := by
  have hb := ext_alloc w (.cells #[.slice A n c, .int .i64 h, .int .i64 ca, .int .i64 em, .int .i64 re, .int .i64 ax, .int .i64 dk] 37)
  have hP := Blk.new w 37 [.slice A n c, .int .i64 h, .int .i64 ca, .int .i64 em, .int .i64 re, .int .i64 ax, .int .i64 dk]
  have C0 := Lib.hid (fun V (hV : Below w.heap.size w V) => Whole_any A n c h ca em re ax dk T m cT R k cR rs V (by omega) hk hk1 (hM.ext hV) hF)
  have C1 := Lib.hid (fun V (hV : Below w.heap.size w V) => allR_any R k cR rs V hk hk1 (hM.ext hV) hF)
  have C2 := Lib.hid (fun V (hV : Below w.heap.size w V) (A1 : Option Addr) (n1 c1 : Nat) (l : List Int) => fun a b c d => Masses_any T m cT ts A1 n1 c1 l V hm hok (ht.ext hV) a b c d)
  have C3 := Lib.hid (fun V (hV : Below w.heap.size w V) (A1 : Option Addr) (n1 c1 : Nat) (l : List Int) => fun a b c d => Highest_any T m cT ts A1 n1 c1 l V hm (ht.ext hV) a b c d)
  generalize hres : rightB ⟨L, h, ca, em, re, ax, dk⟩ ts (rows rs) = res
  unfold rightB at hres
  simp only at hres
  rw [rows_len, hk, hL, hm] at hres
  have Hres := Lib.hid hres
  have Hk := Lib.hid hk
  have HL := Lib.hid hL
  have Hm := Lib.hid hm
  have Hok := Lib.hid hok
  have HF := Lib.hid hF
  have HM := Lib.hid hM
  have HT := Lib.hid ht
  have HLc := Lib.hid hLc
  clear hres hk hL hm hok hF hM ht hLc
  go_enter Try.func51, Try.ntmps51
  go_upto_region 1 with fail
  change Blk (w.alloc (.cells #[.slice A n c, .int .i64 h, .int .i64 ca, .int .i64 em, .int .i64 re, .int .i64 ax, .int .i64 dk] 37)) _ _ _ at hP
  change Below w.heap.size w (w.alloc (.cells #[.slice A n c, .int .i64 h, .int .i64 ca, .int .i64 em, .int .i64 re, .int .i64 ax, .int .i64 dk] 37)) at hb
  generalize w.alloc (.cells #[.slice A n c, .int .i64 h, .int .i64 ca, .int .i64 em, .int .i64 re, .int .i64 ax, .int .i64 dk] 37) = W0 at *
  refine Dr.wp_region_plan 23 [] (.q [0, 1, 2] (.e1 3 (.q [4, 5, 6, 7, 10, 11] (.e1 8 (.e1 9 (.q [12, 13, 14, 15, 16, 19, 20] (.e1 17 (.e1 18 (.q [21, 22] .done))))))))) (by kernel_rfl) (by kernel_rfl) ?_
  replace hb := hb.drew
  replace hP := hP.drew
  generalize World.drew W0 = W1 at *
  have q0 := Dr.cell0 (hP.cell (i := 0) rfl)
  have q1 := Dr.cell0 (hP.cell (i := 1) rfl)
  have q2 := Dr.cell0 (hP.cell (i := 2) rfl)
  have q3 := Dr.cell0 (hP.cell (i := 3) rfl)
  have q4 := Dr.cell0 (hP.cell (i := 4) rfl)
  have q5 := Dr.cell0 (hP.cell (i := 5) rfl)
  have q6 := Dr.cell0 (hP.cell (i := 6) rfl)
  with_reducible refine Dr.plan_q (l := [_, _, _]) (by with_unfolding_all exact rfl) (fun K hK => ?_)
  iterate 3 (go_big_quiet_step (fail))
  refine wpQuiet_nil (hK _ ?_); clear hK K
  clear q0 q1 q2 q3 q4 q5 q6
  have D0 := Lib.hid (C0.out W1 hb)
  cases hwh : (wholeB m (rows rs) && decide (k = n))
  case false =>
    rw [hwh] at D0
    have Hr := Lib.hid (show false = res by
      rw [← Hres.out, Bool.and_comm (decide (k = n)), hwh]; rfl)
    clear hwh
    refine Dr.plan_e rfl (by rfl) (fun K hK => ?_)
    go_wp2_with fail
    refine (D0.out).mono ?_; rintro e W2 ⟨rfl, hx⟩
    refine hK _ _ (.of hx) ?_; clear hK K
    replace hb := ext_trans hb hx
    with_reducible refine Dr.plan_q (l := [_, _, _, _, _, _]) (by with_unfolding_all exact rfl) (fun K hK => ?_)
    iterate 6 (go_big_quiet_step (fail))
    refine wpQuiet_nil (hK _ ?_); clear hK K
    refine Dr.plan_e_skip rfl (by rfl) ?_; go_frame
    refine Dr.plan_e_skip rfl (by rfl) ?_; go_frame
    with_reducible refine Dr.plan_q (l := [_, _, _, _, _, _, _]) (by with_unfolding_all exact rfl) (fun K hK => ?_)
    iterate 7 (go_big_quiet_step (fail))
    refine wpQuiet_nil (hK _ ?_); clear hK K
    refine Dr.plan_e_skip rfl (by rfl) ?_; go_frame
    refine Dr.plan_e_skip rfl (by rfl) ?_; go_frame
    with_reducible refine Dr.plan_q (l := [_, _]) (by with_unfolding_all exact rfl) (fun K hK => ?_)
    iterate 2 (go_big_quiet_step (fail))
    refine wpQuiet_nil (hK _ ?_); clear hK K
    refine Dr.plan_end rfl ?_
    go_wp2
    go_ret
    exact ⟨ret_congr (bool_congr Hr.out), hb⟩
  case true =>
  rw [hwh] at D0
  rw [Bool.and_eq_true, decide_eq_true_eq] at hwh
  obtain ⟨hwh, hkn⟩ := hwh
  have Hperm := Lib.hid (whole_perm hwh)
  have Hin := Lib.hid (show InR m (rows rs).flatten from fun y hy => mem_upto.1 (Hperm.out.mem_iff.1 hy))
  have Hq := Lib.hid (show (((rows rs).zip L).all (fun x => laneB ts x.2 x.1) && (decide (massL ts (rows rs).flatten ≤ ca) && decide (highL ts (rows rs).flatten ≤ h))) = res by
    rw [← Hres.out, decide_eq_true hkn, hwh, Bool.and_self, Bool.true_and, massL_perm Hperm.out, highL_perm Hperm.out]; rfl)
  have Hkn := Lib.hid hkn
  clear hwh hkn
  refine Dr.plan_e rfl (by rfl) (fun K hK => ?_)
  go_wp2_with fail
  refine (D0.out).mono ?_; rintro e W2 ⟨rfl, hx⟩
  refine hK _ _ (.of hx) ?_; clear hK K
  replace hb := ext_trans hb hx
  replace hP := hP.ext hx
  clear D0 hx
  have q2 := Dr.cell0 (hP.cell (i := 2) rfl)
  with_reducible refine Dr.plan_q (l := [_, _, _, _, _, _]) (by with_unfolding_all exact rfl) (fun K hK => ?_)
  iterate 6 (go_big_quiet_step (fail))
  refine wpQuiet_nil (hK _ ?_); clear hK K
  clear q2
  have D1 := Lib.hid (C1.out W2 hb)
  generalize hFl : (rows rs).flatten = F at *
  refine Dr.plan_e rfl (by rfl) (fun K hK => ?_)
  go_wp2_with fail
  refine (D1.out).mono ?_; rintro e W3 ⟨v1, rfl, ho, hx⟩
  obtain ⟨A1, c1, rfl, -, -, hc1⟩ := ho.cells Go.Bs.encI_len
  refine hK _ _ (.of hx) ?_; clear hK K
  replace hb := ext_trans hb hx
  replace hP := hP.ext hx
  clear D1 ho hx
  have D2 := Lib.hid (C2.out W3 hb A1 F.length c1 F rfl HF.out Hin.out hc1)
  generalize hma : massL ts F = ma at *
  refine Dr.plan_e rfl (by rfl) (fun K hK => ?_)
  go_wp2_with fail
  refine (D2.out).mono ?_; rintro e W4 ⟨rfl, rfl⟩
  refine hK _ _ (.refl _ _) ?_; clear hK K
  clear D2 hc1
  have q1 := Dr.cell0 (hP.cell (i := 1) rfl)
  by_cases hca : ma ≤ ca
  case neg =>
    have Hr := Lib.hid (show false = res by rw [← Hq.out, decide_eq_false hca, Bool.false_and, Bool.and_false])
    have hca' : ca < ma := by omega
    with_reducible refine Dr.plan_q (l := [_, _, _, _, _, _, _]) (by with_unfolding_all exact rfl) (fun K hK => ?_)
    iterate 7 (go_big_quiet_step (fail))
    refine wpQuiet_nil (hK _ ?_); clear hK K
    refine Dr.plan_e_skip rfl (by rfl) ?_; go_frame
    refine Dr.plan_e_skip rfl (by rfl) ?_; go_frame
    with_reducible refine Dr.plan_q (l := [_, _]) (by with_unfolding_all exact rfl) (fun K hK => ?_)
    iterate 2 (go_big_quiet_step (fail))
    refine wpQuiet_nil (hK _ ?_); clear hK K
    refine Dr.plan_end rfl ?_
    go_wp2
    go_ret
    exact ⟨ret_congr (bool_congr Hr.out), hb⟩
  case pos =>
  have hca' : ¬ ca < ma := by omega
  have Hq := Lib.hid (show (((rows rs).zip L).all (fun x => laneB ts x.2 x.1) && decide (highL ts F ≤ h)) = res by
    rw [← Hq.out, decide_eq_true hca, Bool.true_and])
  clear hca
  with_reducible refine Dr.plan_q (l := [_, _, _, _, _, _, _]) (by with_unfolding_all exact rfl) (fun K hK => ?_)
  iterate 7 (go_big_quiet_step (fail))
  refine wpQuiet_nil (hK _ ?_); clear hK K
  clear q1
  have D1 := Lib.hid (C1.out W3 hb)
  refine Dr.plan_e rfl (by rfl) (fun K hK => ?_)
  go_wp2_with fail
  refine (D1.out).mono ?_; rintro e W5 ⟨v1, rfl, ho, hx⟩
  obtain ⟨A2, c2, rfl, -, -, hc1⟩ := ho.cells Go.Bs.encI_len
  refine hK _ _ (.of hx) ?_; clear hK K
  replace hb := ext_trans hb hx
  replace hP := hP.ext hx
  clear D1 ho hx
  have D2 := Lib.hid (C3.out W5 hb A2 F.length c2 F rfl HF.out Hin.out hc1)
  generalize hhi : highL ts F = hi at *
  refine Dr.plan_e rfl (by rfl) (fun K hK => ?_)
  go_wp2_with fail
  refine (D2.out).mono ?_; rintro e W6 ⟨rfl, rfl⟩
  refine hK _ _ (.refl _ _) ?_; clear hK K
  clear D2 hc1
  with_reducible refine Dr.plan_q (l := [_, _]) (by with_unfolding_all exact rfl) (fun K hK => ?_)
  iterate 2 (go_big_quiet_step (fail))
  refine wpQuiet_nil (hK _ ?_); clear hK K
  refine Dr.plan_end rfl ?_
  by_cases hhh : hi ≤ h
  case neg =>
    have Hr := Lib.hid (show false = res by rw [← Hq.out, decide_eq_false hhh, Bool.and_false])
    have hhh' : h < hi := by omega
    go_wp2
    go_ret
    exact ⟨ret_congr (bool_congr Hr.out), hb⟩
  case pos =>
  have hhh' : ¬ h < hi := by omega
  have Hq := Lib.hid (show ((rows rs).zip L).all (fun x => laneB ts x.2 x.1) = res by rw [← Hq.out, decide_eq_true hhh, Bool.and_true])
  clear hhh hma hhi
  have Hlen := Lib.hid (show (rows rs).length = L.length by rw [rows_len, Hk.out, HL.out]; exact Hkn.out)
  have HrowIn := Lib.hid (show ∀ x ∈ rs, InR m x.r ∧ x.r.length ≤ m from fun x hx => by
    have hs : x.r.Sublist (rows rs).flatten := List.sublist_flatten_of_mem (List.mem_map.2 ⟨x, hx, rfl⟩)
    rw [hFl] at hs
    refine ⟨fun y hy => Hin.out y (hs.subset hy), ?_⟩
    have h5 := hs.length_le
    have h6 := Hperm.out.length_eq
    rw [upto_len] at h6
    omega)
  have Hno := Lib.hid (show ∀ z, z < k → laneB ts (L.getD z 0) ((rows rs).getD z []) = false → false = res from fun z hz hb => by
    rw [← Hq.out]; exact (zip_bad Hlen.out (by rw [rows_len, Hk.out]; exact hz) hb).symm)
  have Hyes := Lib.hid (show (∀ z, z < k → laneB ts (L.getD z 0) ((rows rs).getD z []) = true) → true = res from fun hz => by
    rw [← Hq.out]; exact ((zip_all Hlen.out).2 (fun z h5 => hz z (by rw [rows_len, Hk.out] at h5; exact h5))).symm)
  clear hFl
  have HMw := Lib.hid (HM.out.ext hb)
  have HTw := Lib.hid (HT.out.ext hb)
  have HLw := Lib.hid (HLc.out.ext hb)
  go_wp2
  clear hhh' hca'
  go_loopw [7, 8, 9] (fun t a q wr => ∃ z : Nat, t = .int .i64 z ∧ z ≤ k ∧ Hid (∀ y, y < z → laneB ts (L.getD y 0) ((rows rs).getD y []) = true) ∧ Below W5.heap.size W5 wr) (fun t _ _ _ => k - (intOf t).toNat)
  case atStart => exact ⟨0, rfl, by omega, Lib.hid (by omega), Below.refl _ _⟩
  case round =>
    obtain ⟨z, rfl, hz, Hz, hbr⟩ := hrel
    by_cases hlt : z < k
    · have hlt' : (z : Int) < (k : Int) := by omega
      have hz1 : z < rs.length := by rw [Hk.out]; exact hlt
      have hzn : z < n := by have := Hkn.out; omega
      have hzn' : (z : Int) < (n : Int) := by omega
      have hzL : z < L.length := by rw [HL.out]; exact hzn
      obtain ⟨b, off, rfl, -, c0⟩ := (HMw.out.ext hbr).hdr.at1 hz1 rfl
      have hrow := (HMw.out.ext hbr).row _ (List.getElem_mem hz1)
      have hin := HrowIn.out _ (List.getElem_mem hz1)
      have hgr : (rows rs).getD z [] = rs[z].r := by simp [rows, List.getD, hz1]
      have hgL : L.getD z 0 = L[z] := by simp [List.getD, hzL]
      have Hn1 := Lib.hid (Hno.out z hlt)
      have Hz2 := Lib.hid (show laneB ts L[z] rs[z].r = true → ∀ y, y < z + 1 → laneB ts (L.getD y 0) ((rows rs).getD y []) = true from fun h5 y hy => by
        by_cases e : y = z
        · rw [e, hgr, hgL]; exact h5
        · exact Hz.out y (by omega))
      rw [hgr, hgL] at Hn1
      have Hi := Lib.hid hin.1
      have hlen := hin.2
      clear hin hgr hgL Hno Hyes
      obtain ⟨b7, off7, eA, -, l0⟩ := (HLw.out.ext hbr).at1 hzL rfl
      have hPr := (hP.ext hbr).cell (i := 0) rfl
      rw [eA] at hPr
      clear eA
      generalize L[z] = room at *
      generalize rs[z] = x at *
      obtain ⟨xr, xA, xc⟩ := x
      simp only at *
      generalize hxl : xr.length = e1 at *
      have Hxl := Lib.hid hxl
      clear hxl
      obtain ⟨wo, hwo⟩ : ∃ wo : World, wo = wr := ⟨_, rfl⟩
      subst hwo
      go_wp2
      go_loopw [8, 9] (fun a q wi => ∃ y : Nat, q = .int .i64 y ∧ y ≤ e1 ∧ a = .int .i64 (longL ts (xr.take y)) ∧ Hid (Falls ts (xr.take y)) ∧ Below wo.heap.size wo wi) (fun _ q _ => e1 - (intOf q).toNat)
      case atStart => exact ⟨0, rfl, by omega, by simp [longL, isum], Lib.hid (falls_zero _ _), Below.refl _ _⟩
      case round =>
        obtain ⟨y, rfl, hy, rfl, Hf, hbi⟩ := hrel
        have hly := longL_take_bd Hok.out (by rw [Hm.out]; exact Hi.out) y
        rw [Hxl.out] at hly
        have hly2 : 0 ≤ longL ts (xr.take y) ∧ longL ts (xr.take y) ≤ 2000000 := by omega
        clear hly
        have c1 := Go.Bs.cell_ext c0 hbi
        by_cases hyl : y < e1
        · have hyl' : (y : Int) < (e1 : Int) := by omega
          have hy1 : y < xr.length := by rw [Hxl.out]; exact hyl
          obtain ⟨b3, off3, rfl, -, e0⟩ := (hrow.ext hbi).at1 hy1 rfl
          have hx := Hi.out _ (List.getElem_mem hy1)
          obtain ⟨j, hj⟩ : ∃ j : Nat, xr[y] = j := ⟨xr[y].toNat, by omega⟩
          have hjm : j < m := by omega
          have hjt : j < ts.length := by rw [Hm.out]; exact hjm
          have hjm' : (j : Int) < (m : Int) := by omega
          have Hl := Lib.hid (longL_succ (ts := ts) hy1)
          have Hne := Lib.hid (show (thAt ts xr[y]).need = ts[j].need by rw [hj, thAt_eq hjt])
          have HxrY := Lib.hid hj
          rw [hj] at e0 hx Hl
          rw [thAt_eq hjt] at Hl
          obtain ⟨b4, off4, eT, -, d0, d1, d2, d3⟩ := (HTw.out.ext (ext_trans hbr hbi)).at4 hjt rfl
          have htl := (Hok.out _ (List.getElem_mem hjt)).long
          have ET := Lib.hid eT
          rw [eT]
          clear hj eT hx
          generalize hne : ts[j].need = ne at *
          generalize ts[j].long = lo at *
          clear hne d1 d2
          have hj0 : (0 : Int) ≤ (j : Int) := by omega
          by_cases hy0 : y = 0
          · have Hf2 := Lib.hid (show Falls ts (xr.take (y + 1)) by subst hy0; exact falls_one (ts := ts) hy1)
            have hyn : ¬ (0 : Int) < (y : Int) := by omega
            have hyn2 : ¬ 0 < y := by omega
            clear hy0
            go_upto_region 11 with fail
            refine Dr.wp_region_plan 28 [] (.q [0, 1, 2, 3, 4, 5, 6, 7, 8, 9, 10, 11, 12, 13] (.q [14, 15, 16, 17, 18, 19, 20, 21, 22, 23, 24, 25, 26, 27] .done)) (by kernel_rfl) (by kernel_rfl) ?_
            replace hbi := hbi.drew
            clear c1 e0 d0 d3
            generalize World.drew wr = wj at *
            with_reducible refine Dr.plan_q (l := [_, _, _, _, _, _, _, _, _, _, _, _, _, _]) (by with_unfolding_all exact rfl) (fun K hK => ?_)
            iterate 14 (go_big_quiet_step (fail))
            refine wpQuiet_nil (hK _ ?_); clear hK K
            with_reducible refine Dr.plan_q (l := [_, _, _, _, _, _, _, _, _, _, _, _, _, _]) (by with_unfolding_all exact rfl) (fun K hK => ?_)
            iterate 14 (go_big_quiet_step (fail))
            refine wpQuiet_nil (hK _ ?_); clear hK K
            refine Dr.plan_end rfl ?_
            go_wp2
            go_roundw
            case rel => exact ⟨y + 1, by go_num, by omega, by rw [Hl.out], Hf2, hbi⟩
            case measure => simp [intOf]; omega
          · obtain ⟨u, rfl⟩ : ∃ u, y = u + 1 := ⟨y - 1, by omega⟩
            have hu1 : u < xr.length := by omega
            have Hfs := Lib.hid (falls_succ (ts := ts) (l := xr) (k := u) hy1)
            obtain ⟨b5, off5, eA5, -, e1c⟩ := (hrow.ext hbi).at1 hu1 rfl
            cases eA5
            have hx := Hi.out _ (List.getElem_mem hu1)
            obtain ⟨i, hi⟩ : ∃ i : Nat, xr[u] = i := ⟨xr[u].toNat, by omega⟩
            have him : i < m := by omega
            have hit : i < ts.length := by rw [Hm.out]; exact him
            have him' : (i : Int) < (m : Int) := by omega
            have hi0 : (0 : Int) ≤ (i : Int) := by omega
            rw [hi] at e1c hx Hfs
            rw [thAt_eq hit, Hne.out] at Hfs
            obtain ⟨b6, off6, eT6, -, -, -, -, d6⟩ := (HTw.out.ext (ext_trans hbr hbi)).at4 hit rfl
            rw [ET.out] at eT6
            cases eT6
            clear hi hx
            generalize ts[i].need = nf at *
            go_upto_region 11 with fail
            refine Dr.wp_region_plan 28 [] (.q [0, 1, 2, 3, 4, 5, 6, 7, 8, 9, 10, 11, 12, 13] (.q [14, 15, 16, 17, 18, 19, 20, 21, 22, 23, 24, 25, 26, 27] .done)) (by kernel_rfl) (by kernel_rfl) ?_
            replace hbi := hbi.drew
            have g1 := Dr.cell0 (w := wr.drew) c1
            have g2 := Dr.cell0 (w := wr.drew) e0
            have g3 := Dr.cell0 (w := wr.drew) d3
            have g4 := Dr.cell0 (w := wr.drew) e1c
            have g5 := Dr.cell0 (w := wr.drew) d6
            clear c1 e0 d0 d3 e1c d6
            generalize World.drew wr = wj at *
            with_reducible refine Dr.plan_q (l := [_, _, _, _, _, _, _, _, _, _, _, _, _, _]) (by with_unfolding_all exact rfl) (fun K hK => ?_)
            iterate 14 (go_big_quiet_step (fail))
            refine wpQuiet_nil (hK _ ?_); clear hK K
            with_reducible refine Dr.plan_q (l := [_, _, _, _, _, _, _, _, _, _, _, _, _, _]) (by with_unfolding_all exact rfl) (fun K hK => ?_)
            iterate 14 (go_big_quiet_step (fail))
            refine wpQuiet_nil (hK _ ?_); clear hK K
            refine Dr.plan_end rfl ?_
            clear g1 g2 g3 g4 g5
            by_cases hnn : ne ≤ nf
            · have hnn' : ¬ nf < ne := by omega
              have Hf2 := Lib.hid (Hfs.out.2 ⟨Hf.out, hnn⟩)
              go_wp2
              go_roundw
              case rel => exact ⟨u + 1 + 1, by go_num, by omega, by rw [Hl.out], Hf2, hbi⟩
              case measure => simp [intOf]; omega
            · have hnn' : nf < ne := by omega
              have Hr := Lib.hid (Hn1.out (by
                unfold laneB
                rw [decide_eq_false (p := Falls ts xr) (fun h5 => hnn (Hfs.out.1 (falls_take h5 _)).2), Bool.false_and]))
              have hbf := ext_trans hb (ext_trans hbr hbi)
              go_wp2
              go_ret
              exact ⟨ret_congr (bool_congr Hr.out), hbf⟩
        · have hyt : xr.take y = xr := List.take_of_length_le (by rw [Hxl.out]; omega)
          rw [hyt] at Hf hly2
          rw [hyt]
          clear hyt
          have l1 := Go.Bs.cell_ext l0 hbi
          have hPi := Go.Bs.cell_ext hPr hbi
          have hPl := hP.lt
          have Hla := Lib.hid (show laneB ts room xr = decide (longL ts xr ≤ room) by unfold laneB; rw [decide_eq_true Hf.out, Bool.true_and])
          generalize longL ts xr = lg at *
          by_cases hro : lg ≤ room
          · have hro' : ¬ room < lg := by omega
            have Hz3 := Lib.hid (Hz2.out (by rw [Hla.out]; exact decide_eq_true hro))
            have hbo := ext_trans hbr hbi
            go_wp2
            go_roundw
            case rel => exact ⟨z + 1, by go_num, by omega, Hz3, hbo⟩
            case measure => simp [intOf]; omega
          · have hro' : room < lg := by omega
            have Hr := Lib.hid (Hn1.out (by rw [Hla.out]; exact decide_eq_false hro))
            have hbf := ext_trans hb (ext_trans hbr hbi)
            go_wp2
            go_ret
            exact ⟨ret_congr (bool_congr Hr.out), hbf⟩
    · obtain rfl : z = k := by omega
      have Hr := Lib.hid (Hyes.out Hz.out)
      have hbf := ext_trans hb hbr
      go_wp2
      go_ret
      exact ⟨ret_congr (bool_congr Hr.out), hbf⟩
end Go.Proofs.Ytbpmfaibcibleaa

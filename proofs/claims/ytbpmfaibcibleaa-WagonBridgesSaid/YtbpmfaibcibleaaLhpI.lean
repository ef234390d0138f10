/- Walk: Whole. (Printed by mk_lhpi.py.) -/
import Derived.Test.YtbpmfaibcibleaaLhpH
import Derived.Test.YtbpmfaibcibleaaLhpA
import Derived.Test.YtbpmfaibcibleaaWhoP
import Derived.Test.YtbpmfaibcibleaaSeaF
namespace Go.Wg
open Go.RowKit Go.Bs Go.Pl
def cnt (F : List Int) (j : Nat) : Nat → Int := fun i => (((F.take j).count (i : Int) : Nat) : Int)
theorem cnt_succ {F : List Int} {j i : Nat} (hj : j < F.length) (e : F[j] = i) : upd (cnt F j) i (cnt F j i + 1) = cnt F (j + 1) := by
  funext z
  unfold upd cnt
  rw [List.take_succ_eq_append_getElem hj, e, List.count_append]
  by_cases hz : z = i
  · subst hz; rw [if_pos rfl]; simp
  · rw [if_neg hz, List.count_singleton]
    have : ((i : Int) == (z : Int)) = false := by simp; omega
    rw [this]; simp
theorem cnt_bd (F : List Int) (j i : Nat) : 0 ≤ cnt F j i ∧ cnt F j i ≤ j := by
  have h1 := List.count_le_length (a := (i : Int)) (l := F.take j)
  have h2 : (F.take j).length ≤ j := by rw [List.length_take]; omega
  unfold cnt
  omega
end Go.Wg
namespace Go.Proofs.Ytbpmfaibcibleaa
open Go.RowKit Go.Bs Go.Wg Go.Pl Go.Sort
set_option maxRecDepth 100000 in
set_option maxHeartbeats 2000000 in
theorem Whole_any (A : Option Addr) (n c : Nat) (h ca em re ax dk : Int) (T : Option Addr) (m cT : Nat) (R : Option Addr) (k cR : Nat) (rs : List RwV) (w : World) (hm : m ≤ 1000000) (hk : rs.length = k) (hk1 : k ≤ 1000000) (hM : RwM w R rs) (hF : (rows rs).flatten.length ≤ 1000000) :
    Calls Try.prog 80 #[.agg #[.slice A n c, .int .i64 h, .int .i64 ca, .int .i64 em, .int .i64 re, .int .i64 ax, .int .i64 dk], .slice T m cT, .slice R k cR] w fun e w' => e = .returned (.bool (wholeB m (rows rs) && decide (k = n))) ∧ Below w.heap.size w w' := by
  have hb := ext_alloc w (.cells #[.slice A n c, .int .i64 h, .int .i64 ca, .int .i64 em, .int .i64 re, .int .i64 ax, .int .i64 dk] 37)
  have hP := Blk.new w 37 [.slice A n c, .int .i64 h, .int .i64 ca, .int .i64 em, .int .i64 re, .int .i64 ax, .int .i64 dk]
  have HM := Lib.hid (fun V (hV : Below w.heap.size w V) => allR_any R k cR rs V hk hk1 (hM.ext hV) hF)
  unfold wholeB
  generalize (rows rs).flatten = F at *
  generalize hres : (decide (srtL F = upto m) && decide (k = n)) = res
  have Hres := Lib.hid hres
  clear hres hM hk
  go_enter Try.func80, Try.ntmps80
  go_upto_region 1 with fail
  change Blk (w.alloc (.cells #[.slice A n c, .int .i64 h, .int .i64 ca, .int .i64 em, .int .i64 re, .int .i64 ax, .int .i64 dk] 37)) _ _ _ at hP
  change Below w.heap.size w (w.alloc (.cells #[.slice A n c, .int .i64 h, .int .i64 ca, .int .i64 em, .int .i64 re, .int .i64 ax, .int .i64 dk] 37)) at hb
  generalize w.alloc (.cells #[.slice A n c, .int .i64 h, .int .i64 ca, .int .i64 em, .int .i64 re, .int .i64 ax, .int .i64 dk] 37) = W0 at *
  have hG := Blk.new W0 3 ((tab m fun _ => 0).map (Value.int .i64))
  have hx1 := ext_alloc W0 (.cells ((tab m fun _ => 0).map (Value.int .i64)).toArray 3)
  have hmk := mk35 m hm
  have hm0 : (0 : Int) ≤ m := by omega
  have hPl := hP.lt
  go_upto_region 2 with fail
  clear hmk
  change IArr _ _ _ _ at hG
  generalize W0.alloc (.cells ((tab m fun _ => 0).map (Value.int .i64)).toArray 3) = W1 at *
  replace hb := ext_trans hb hx1
  replace hP := hP.ext hx1
  clear hx1
  go_wp2_with fail
  refine (HM.out W1 hb).mono ?_; rintro e W2 ⟨v, rfl, ho, hx⟩
  obtain ⟨A2, c2, rfl, -, -, hc⟩ := ho.cells Go.Bs.encI_len
  have hub := ho.block_ge rfl
  have hGl := Wg.IArr.lt' hG
  replace hG := hG.ext hx
  replace hP := hP.ext hx
  replace hb := ext_trans hb hx
  clear HM ho hx
  have hG0 : IArr W2 W0.heap.size 3 (tab m (cnt F 0)) := hG
  clear hG
  generalize hN : F.length = N at *
  have HN := Lib.hid hN
  clear hN
  have HU := Lib.hid hub
  clear hub
  go_wp2
  go_loopw [9] (fun t wr => ∃ j : Nat, t = .int .i64 j ∧ j ≤ N ∧ Hid (InR m (F.take j)) ∧ IArr wr W0.heap.size 3 (tab m (cnt F j)) ∧ Dr.Bel [W0.heap.size] W2 wr) (fun t _ => N - (intOf t).toNat)
  case atStart => exact ⟨0, rfl, by omega, Lib.hid (by intro x hx; simp at hx), hG0, Dr.Bel.refl _ _⟩
  case round =>
    clear hG0
    obtain ⟨j, rfl, hj, Hin, hG, hbl⟩ := hrel
    have hcr := Dr.cells_bel hc hbl (fun b e => by have h1 := HU.out b e; simp; omega)
    by_cases hlt : j < N
    · have hlt' : (j : Int) < N := by omega
      have hjl : j < F.length := by rw [HN.out]; exact hlt
      obtain ⟨b, off, rfl, -, d0⟩ := hcr.at1 hjl rfl
      obtain ⟨x, hxe⟩ : ∃ x, F[j] = x := ⟨_, rfl⟩
      rw [hxe] at d0
      have C := Lib.hid (fun V => In_any x 0 ((m : Int) - 1) V)
      by_cases hin : 0 ≤ x ∧ x < m
      · obtain ⟨i, rfl⟩ : ∃ i : Nat, x = i := ⟨x.toNat, by omega⟩
        have him : i < m := by omega
        have him' : (i : Int) < (m : Int) := by omega
        have hbt : btw (i : Int) 0 ((m : Int) - 1) = true := by simp [btw]; omega
        rw [hbt] at C
        clear hbt
        have Hin2 := Lib.hid (show InR m (F.take (j + 1)) by
          rw [List.take_succ_eq_append_getElem hjl, hxe]
          intro z hz
          rcases List.mem_append.1 hz with h5 | h5
          · exact Hin.out z h5
          · rw [List.mem_singleton.1 h5]; exact hin)
        have cG := hG.cell (tab_get (cnt F j) him)
        have fG := hG.free i
        have hG2 := hG.set i (cnt F j i + 1)
        rw [tab_set, cnt_succ hjl hxe] at hG2
        have hbl2 := hbl.put (p := ⟨W0.heap.size, i, none⟩) (by simp) (.int .i64 (cnt F j i + 1))
        have hcb := cnt_bd F j i
        have hNs : j ≤ 1000000 := by have h1 := HN.out; omega
        have hGlr := Wg.IArr.lt' hG
        clear hxe hin hG hbl hcr
        generalize cnt F j i = y at *
        go_wp2_with fail
        refine (C.out _).mono ?_; rintro e V1 ⟨rfl, rfl⟩
        go_wp2
        generalize World.setCell _ ⟨W0.heap.size, i, none⟩ (.int .i64 (y + 1)) = V2 at *
        go_roundw
        case rel => exact ⟨j + 1, by go_num, by omega, Hin2, hG2, hbl2⟩
        case measure => simp [intOf]; omega
      · have hbt : btw x 0 ((m : Int) - 1) = false := by simp [btw]; omega
        rw [hbt] at C
        have Hr := Lib.hid (show false = res by
          rw [← Hres.out]
          have h5 : ¬ srtL F = upto m := fun e => hin ((whole_iff.1 e).1 x (by rw [← hxe]; exact List.getElem_mem hjl))
          rw [decide_eq_false h5]; rfl)
        have hbf := hb.trans (hbl.old hb.size (by simp; omega))
        clear hbt hxe hin
        go_wp2_with fail
        refine (C.out _).mono ?_; rintro e V1 ⟨rfl, rfl⟩
        go_wp2
        go_ret
        exact ⟨ret_congr (bool_congr Hr.out), hbf⟩
    · obtain rfl : j = N := by omega
      have hFt : F.take j = F := List.take_of_length_le (by rw [HN.out]; omega)
      have HI := Lib.hid (show InR m F by rw [← hFt]; exact Hin.out)
      have hce : ∀ z, cnt F j z = ((F.count (z : Int) : Nat) : Int) := fun z => by unfold cnt; rw [hFt]
      have Hce := Lib.hid hce
      obtain ⟨V3, hV⟩ : ∃ V, V = wr := ⟨_, rfl⟩
      subst hV
      have hP3 := hbl.blk hP (by simp; omega)
      have hbf := hb.trans (hbl.old hb.size (by simp; omega))
      clear hce hFt hlt hj hcr hbl hP hb hc Hin
      have q0 : V3.cell? ⟨w.heap.size, 0, none⟩ = _ := hP3.cell rfl
      generalize cnt F j = f at *
      go_wp2
      go_loop [10] (fun t => ∃ i : Nat, t = .int .i64 i ∧ i ≤ m ∧ Hid (∀ z, z < i → f z = 1)) (fun t => m - (intOf t).toNat)
      case atStart => exact ⟨0, rfl, by omega, Lib.hid (by omega)⟩
      case round =>
        obtain ⟨i, rfl, hi, Hi⟩ := hrel
        by_cases hlt : i < m
        · have hlt' : (i : Int) < m := by omega
          have cG := hG.cell (tab_get f hlt)
          by_cases hy : f i = 1
          · have Hi2 := Lib.hid (show ∀ z, z < i + 1 → f z = 1 from fun z hz => by
              by_cases e : z = i
              · rw [e]; exact hy
              · exact Hi.out z (by omega))
            have hy2 : (f i != 1) = false := by simp [hy]
            rw [hy] at cG
            clear hy hy2
            go_wp2
            go_round
            case rel => exact ⟨i + 1, by go_num, by omega, Hi2⟩
            case measure => simp [intOf]; omega
          · have Hr := Lib.hid (show false = res by
              rw [← Hres.out]
              have h5 : ¬ srtL F = upto m := fun e => hy (by rw [Hce.out, (whole_iff.1 e).2 i hlt]; rfl)
              rw [decide_eq_false h5]; rfl)
            generalize f i = y at *
            have hy2 : (y != 1) = true := by simp [hy]
            clear hy
            go_wp2
            go_ret
            exact ⟨ret_congr (bool_congr Hr.out), hbf⟩
        · obtain rfl : i = m := by omega
          have Hr := Lib.hid (show decide (k = n) = res by
            rw [← Hres.out]
            have h5 : srtL F = upto i := whole_iff.2 ⟨HI.out, fun z hz => by
              have h6 := Hce.out z
              rw [Hi.out z hz] at h6
              omega⟩
            rw [decide_eq_true h5, Bool.true_and])
          have Hr2 := Lib.hid (show decide ((k : Int) = (n : Int)) = res by rw [← Hr.out]; exact decide_eq_decide.2 (by omega))
          go_wp2
          go_ret
          exact ⟨ret_congr (bool_congr (by first | exact Hr.out | exact Hr2.out)), hbf⟩
end Go.Proofs.Ytbpmfaibcibleaa

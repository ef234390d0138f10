/- Walk: Loadable, of the document. -/
import Derived.Test.YtbpmfaibcibleaaLhpJ
namespace Go.Wg
open Go.RowKit Go.Bs Go.Pl
/-- numbers rise -/
def Rise (l : List Int) : Prop := l.Pairwise fun a b => a < b
instance (l : List Int) : Decidable (Rise l) := inferInstanceAs (Decidable (List.Pairwise _ l))
def riseB (p : List (List Int)) : Bool := p.all fun l => decide (Rise l)
theorem rise_take {l : List Int} (h : Rise l) (k : Nat) : Rise (l.take k) := List.Pairwise.sublist (List.take_sublist k l) h
theorem rise_one (l : List Int) : Rise (l.take 1) := by
  cases l with
  | nil => exact List.Pairwise.nil
  | cons a l => exact List.pairwise_singleton _ _
theorem rise_succ {l : List Int} {k : Nat} (h : k + 1 < l.length) : Rise (l.take (k + 1 + 1)) ↔ Rise (l.take (k + 1)) ∧ l[k] < l[k + 1] := by
  unfold Rise
  rw [List.take_succ_eq_append_getElem (i := k + 1) h, List.pairwise_append]
  constructor
  · rintro ⟨h1, -, h3⟩
    exact ⟨h1, h3 _ (by rw [List.mem_take_iff_getElem]; exact ⟨k, by omega, rfl⟩) _ (by simp)⟩
  · rintro ⟨h1, h2⟩
    refine ⟨h1, List.pairwise_singleton _ _, fun a ha b hb => ?_⟩
    simp only [List.mem_singleton] at hb
    subst hb
    rw [List.take_succ_eq_append_getElem (i := k) (by omega)] at ha h1
    rcases List.mem_append.1 ha with ha | ha
    · exact Int.lt_trans ((List.pairwise_append.1 h1).2.2 a ha _ (by simp)) h2
    · simp only [List.mem_singleton] at ha
      rw [ha]; exact h2
/-- what is right rises if it does not fall -/
theorem rise_load {j : Lo} {ts : List Th} {p : List (List Int)} (h : rightB j ts p = true) : riseB p = loadB p := by
  have hp := (right_iff.1 h).perm
  have hnd : p.flatten.Nodup := hp.nodup_iff.2 (upto_nodup _)
  unfold riseB loadB
  rw [Bool.eq_iff_iff, List.all_eq_true, List.all_eq_true]
  constructor
  · intro H l hl
    exact decide_eq_true ((of_decide_eq_true (H l hl)).imp fun h => Int.le_of_lt h)
  · intro H l hl
    have h1 : l.Nodup := (List.sublist_flatten_of_mem hl).nodup hnd
    have h2 := of_decide_eq_true (H l hl)
    refine decide_eq_true ?_
    exact (List.Pairwise.and h2 h1).imp fun ⟨a, b⟩ => by omega
end Go.Wg
namespace Go.Proofs.Ytbpmfaibcibleaa
open Go.RowKit Go.Bs Go.Wg Go.Pl Go.Sort
set_option maxRecDepth 100000 in
set_option maxHeartbeats 4000000 in
theorem LoadR_any (A : Option Addr) (n c : Nat) (h ca em re ax dk : Int) (L : List Int) (T : Option Addr) (m cT : Nat) (ts : List Th) (R : Option Addr) (k cR : Nat) (rs : List RwV) (w : World) (hL : L.length = n) (hn : n ≤ 1000000) (hLc : Cells w A 1 Go.Bs.encI L)
    (hm : ts.length = m) (h14 : m ≤ 1000) (hok : ∀ t ∈ ts, t.Ok) (ht : Cells w T 4 Th.enc ts) (hk : rs.length = k) (hk1 : k ≤ 1000000) (hM : RwM w R rs) (hF : (rows rs).flatten.length ≤ 1000000) :
    Calls Try.prog 52 #[.agg #[.slice A n c, .int .i64 h, .int .i64 ca, .int .i64 em, .int .i64 re, .int .i64 ax, .int .i64 dk], .slice T m cT, .slice R k cR] w fun e w' => e = .returned (.bool (rightB ⟨L, h, ca, em, re, ax, dk⟩ ts (rows rs) && loadB (rows rs))) ∧ Below w.heap.size w w' := by
  have hb := ext_alloc w (.cells #[.slice A n c, .int .i64 h, .int .i64 ca, .int .i64 em, .int .i64 re, .int .i64 ax, .int .i64 dk] 37)
  have hP := Blk.new w 37 [.slice A n c, .int .i64 h, .int .i64 ca, .int .i64 em, .int .i64 re, .int .i64 ax, .int .i64 dk]
  have C0 := Lib.hid (fun V (hV : Below w.heap.size w V) => RightR_any A n c h ca em re ax dk L T m cT ts R k cR rs V hL hn (hLc.ext hV) hm h14 hok (ht.ext hV) hk hk1 (hM.ext hV) hF)
  have hlen : ∀ x ∈ rs, x.r.length ≤ 1000000 := fun x hx => by
    have hs : x.r.Sublist (rows rs).flatten := List.sublist_flatten_of_mem (List.mem_map.2 ⟨x, hx, rfl⟩)
    have := hs.length_le
    omega
  have Hlen := Lib.hid hlen
  generalize hres : (rightB ⟨L, h, ca, em, re, ax, dk⟩ ts (rows rs) && loadB (rows rs)) = res
  have Hno := Lib.hid (show ∀ x ∈ rs, ¬ Rise x.r → false = res from fun x hx hr => by
    rw [← hres]
    cases hR : rightB ⟨L, h, ca, em, re, ax, dk⟩ ts (rows rs)
    · rfl
    · rw [← rise_load hR, Bool.true_and]
      symm; rw [Bool.eq_false_iff]
      intro e
      exact hr (of_decide_eq_true (List.all_eq_true.1 e x.r (List.mem_map.2 ⟨x, hx, rfl⟩))))
  have Hyes := Lib.hid (show (∀ z, (hz : z < rs.length) → Rise rs[z].r) → rightB ⟨L, h, ca, em, re, ax, dk⟩ ts (rows rs) = res from fun hz => by
    rw [← hres]
    cases hR : rightB ⟨L, h, ca, em, re, ax, dk⟩ ts (rows rs)
    · rfl
    · rw [← rise_load hR, Bool.true_and]
      symm; unfold riseB; rw [List.all_eq_true]
      intro l hl
      obtain ⟨x, hx, rfl⟩ := List.mem_map.1 hl
      obtain ⟨z, hz', rfl⟩ := List.mem_iff_getElem.1 hx
      exact decide_eq_true (hz z hz'))
  have Hk := Lib.hid hk
  have HM := Lib.hid hM
  generalize rightB ⟨L, h, ca, em, re, ax, dk⟩ ts (rows rs) = rb at *
  clear hres hk hL hm hok hF hM ht hLc hlen
  go_enter Try.func52, Try.ntmps52
  go_upto_region 1 with fail
  change Blk (w.alloc (.cells #[.slice A n c, .int .i64 h, .int .i64 ca, .int .i64 em, .int .i64 re, .int .i64 ax, .int .i64 dk] 37)) _ _ _ at hP
  change Below w.heap.size w (w.alloc (.cells #[.slice A n c, .int .i64 h, .int .i64 ca, .int .i64 em, .int .i64 re, .int .i64 ax, .int .i64 dk] 37)) at hb
  generalize w.alloc (.cells #[.slice A n c, .int .i64 h, .int .i64 ca, .int .i64 em, .int .i64 re, .int .i64 ax, .int .i64 dk] 37) = W0 at *
  have HMw := Lib.hid (HM.out.ext hb)
  go_wp2
  go_loopw [7, 8] (fun t q wr => ∃ z : Nat, t = .int .i64 z ∧ z ≤ k ∧ Hid (∀ y, (hy : y < rs.length) → y < z → Rise rs[y].r) ∧ Below W0.heap.size W0 wr) (fun t _ _ => k - (intOf t).toNat)
  case atStart => exact ⟨0, rfl, by omega, Lib.hid (by omega), Below.refl _ _⟩
  case round =>
    obtain ⟨z, rfl, hz, Hz, hbr⟩ := hrel
    by_cases hlt : z < k
    · have hlt' : (z : Int) < (k : Int) := by omega
      have hz1 : z < rs.length := by rw [Hk.out]; exact hlt
      obtain ⟨b, off, rfl, -, c0⟩ := (HMw.out.ext hbr).hdr.at1 hz1 rfl
      have hrow := (HMw.out.ext hbr).row _ (List.getElem_mem hz1)
      have hle := Hlen.out _ (List.getElem_mem hz1)
      have Hn1 := Lib.hid (Hno.out _ (List.getElem_mem hz1))
      have Hz2 := Lib.hid (show Rise rs[z].r → ∀ y, (hy : y < rs.length) → y < z + 1 → Rise rs[y].r from fun h5 y hy hyz => by
        by_cases e : y = z
        · subst e; exact h5
        · exact Hz.out y hy (by omega))
      clear Hno Hyes Hlen
      generalize rs[z] = x at *
      obtain ⟨xr, xA, xc⟩ := x
      simp only at *
      generalize hxl : xr.length = e1 at *
      have Hxl := Lib.hid hxl
      clear hxl
      obtain ⟨wo, hwo⟩ : ∃ wo : World, wo = wr := ⟨_, rfl⟩
      subst hwo
      go_wp2
      go_loopw [8] (fun q wi => ∃ y : Nat, q = .int .i64 ((y + 1 : Nat) : Int) ∧ y ≤ e1 ∧ Hid (Rise (xr.take (y + 1))) ∧ Below wo.heap.size wo wi) (fun q _ => e1 + 1 - (intOf q).toNat)
      case atStart => exact ⟨0, rfl, by omega, Lib.hid (rise_one _), Below.refl _ _⟩
      case round =>
        obtain ⟨y, rfl, hy, Hf, hbi⟩ := hrel
        have c1 := Go.Bs.cell_ext c0 hbi
        obtain ⟨u, hu⟩ : ∃ u, y + 1 = u := ⟨_, rfl⟩
        rw [hu] at Hf
        rw [hu]
        by_cases hyl : u < e1
        · have hyl' : (u : Int) < (e1 : Int) := by omega
          have hu1 : y + 1 < xr.length := by rw [Hxl.out]; omega
          have hy1 : y < xr.length := by omega
          have Hfs := Lib.hid (rise_succ (l := xr) hu1)
          obtain ⟨b3, off3, rfl, -, e0⟩ := (hrow.ext hbi).at1 hu1 rfl
          obtain ⟨b5, off5, eA5, -, e1c⟩ := (hrow.ext hbi).at1 hy1 rfl
          cases eA5
          generalize xr[y + 1] = p at *
          generalize xr[y] = q at *
          subst hu
          have hy0 : (0 : Int) ≤ ((y + 1 : Nat) : Int) := by omega
          go_upto_region 7 with fail
          refine Dr.wp_region_plan 16 [] (.q [0, 1, 2, 3, 4, 5, 6, 7, 8, 9, 10, 11, 12, 13, 14, 15] .done) (by kernel_rfl) (by kernel_rfl) ?_
          replace hbi := hbi.drew
          have g1 := Dr.cell0 (w := wr.drew) c1
          have g2 := Dr.cell0 (w := wr.drew) e0
          have g4 := Dr.cell0 (w := wr.drew) e1c
          clear c1 e0 e1c
          generalize World.drew wr = wj at *
          refine Dr.plan_q (l := [_, _, _, _, _, _, _, _, _, _, _, _, _, _, _, _]) rfl (fun K hK => ?_)
          iterate 16 (go_big_quiet_step (fail))
          refine wpQuiet_nil (hK _ ?_); clear hK K
          refine Dr.plan_end rfl ?_
          clear g1 g2 g4
          by_cases hnn : q < p
          · have hnn' : ¬ p ≤ q := by omega
            have Hf2 := Lib.hid (Hfs.out.2 ⟨Hf.out, hnn⟩)
            go_wp2
            go_roundw
            case rel => exact ⟨y + 1, by go_num, by omega, Hf2, hbi⟩
            case measure => simp [intOf]; omega
          · have hnn' : p ≤ q := by omega
            have Hr := Lib.hid (Hn1.out (fun h5 => hnn (Hfs.out.1 (rise_take h5 _)).2))
            have hbf := ext_trans hb (ext_trans hbr hbi)
            go_wp2
            go_ret
            exact ⟨ret_congr (bool_congr Hr.out), hbf⟩
        · have hyt : xr.take u = xr := List.take_of_length_le (by rw [Hxl.out]; omega)
          rw [hyt] at Hf
          have hyl' : ¬ (u : Int) < (e1 : Int) := by omega
          have Hz3 := Lib.hid (Hz2.out Hf.out)
          have hbo := ext_trans hbr hbi
          have hu0 : (0 : Int) ≤ (u : Int) := by omega
          clear hyt hu
          go_wp2
          go_roundw
          case rel => exact ⟨z + 1, by go_num, by omega, Hz3, hbo⟩
          case measure => simp [intOf]; omega
    · obtain rfl : z = k := by omega
      have Hr := Lib.hid (Hyes.out (fun y hy => Hz.out y hy (by rw [Hk.out] at hy; exact hy)))
      have hbf := ext_trans hb hbr
      replace hP := hP.ext hbr
      have q0 : wr.cell? ⟨w.heap.size, 0, none⟩ = _ := hP.cell rfl
      have q1 : wr.cell? ⟨w.heap.size, 1, none⟩ = _ := hP.cell rfl
      have q2 : wr.cell? ⟨w.heap.size, 2, none⟩ = _ := hP.cell rfl
      have q3 : wr.cell? ⟨w.heap.size, 3, none⟩ = _ := hP.cell rfl
      have q4 : wr.cell? ⟨w.heap.size, 4, none⟩ = _ := hP.cell rfl
      have q5 : wr.cell? ⟨w.heap.size, 5, none⟩ = _ := hP.cell rfl
      have q6 : wr.cell? ⟨w.heap.size, 6, none⟩ = _ := hP.cell rfl
      go_wp2_with fail
      refine (C0.out _ hbf).mono ?_; rintro e W9 ⟨rfl, hx9⟩
      have hbg := ext_trans hbf hx9
      go_wp2
      go_ret
      exact ⟨ret_congr (bool_congr Hr.out), hbg⟩
end Go.Proofs.Ytbpmfaibcibleaa

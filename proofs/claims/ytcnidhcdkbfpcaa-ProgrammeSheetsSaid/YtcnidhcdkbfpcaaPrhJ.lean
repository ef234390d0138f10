/- Walks: the reference's Order and Change. -/
import Derived.Test.YtcnidhcdkbfpcaaPrhI
namespace Go.Pg
open Go.Pl Go.Bs
theorem isum_cons (x : Int) (l : List Int) : isum (x :: l) = x + isum l := by
  have := isum_append [x] l
  simp [isum] at this ⊢
  try exact this
theorem isum_filter {α : Type} (p : α → Bool) (f : α → Int) : ∀ l : List α, isum ((l.filter p).map f) = isum (l.map fun i => if p i = true then f i else 0)
  | [] => rfl
  | x :: l => by
    rw [List.map_cons, isum_cons, List.filter_cons]
    cases hp : p x
    · rw [if_neg (by decide), if_neg (by decide), isum_filter p f l]; omega
    · rw [if_pos rfl, if_pos rfl, List.map_cons, isum_cons, isum_filter p f l]
theorem isum_add {α : Type} (f g : α → Int) : ∀ l : List α, isum (l.map f) + isum (l.map g) = isum (l.map fun i => f i + g i)
  | [] => rfl
  | x :: l => by
    rw [List.map_cons, List.map_cons, List.map_cons, isum_cons, isum_cons, isum_cons, ← isum_add f g l]; omega
theorem isum_range_ext (f : Nat → Int) {n : Nat} : ∀ m : Nat, (∀ i, n ≤ i → f i = 0) → isum ((List.range (n + m)).map f) = isum ((List.range n).map f)
  | 0, _ => rfl
  | m + 1, h => by
    rw [← Nat.add_assoc, List.range_succ, List.map_append, isum_append, isum_range_ext f m h]
    have : isum ([n + m].map f) = 0 := by
      rw [List.map_cons, List.map_nil, isum_cons, h _ (by omega)]; rfl
    omega
namespace Sh
/-- what number k brings to the minutes of a change -/
def chG (s : Sh) (a b k : Nat) : Int := (if ((s.act b).rigs.testBit k && !(s.act a).rigs.testBit k) = true then s.ins.getD k 0 else 0) + (if ((s.act a).rigs.testBit k && !(s.act b).rigs.testBit k) = true then s.outs.getD k 0 else 0)
def chTo (s : Sh) (a b k : Nat) : Int := isum ((List.range k).map (s.chG a b))
theorem chTo_succ (s : Sh) (a b k : Nat) : s.chTo a b (k + 1) = s.chTo a b k + s.chG a b k := by
  unfold chTo
  rw [List.range_succ, List.map_append, isum_append]
  have : isum ([k].map (s.chG a b)) = s.chG a b k := by rw [List.map_cons, List.map_nil, isum_cons]; show _ + 0 = _; omega
  omega
theorem chTo_end {s : Sh} (h : s.Ok) {a b : Nat} (ha : a < s.acts.length) (hb : b < s.acts.length) : s.chTo a b s.ins.length = s.chM a b := by
  have h1 := (h.act ha).rigs
  have h2 := (h.act hb).rigs
  have hz : ∀ (r : Nat), r < 2 ^ s.ins.length → ∀ i, s.ins.length ≤ i → r.testBit i = false := fun r hr i hi => Nat.testBit_lt_two_pow (Nat.lt_of_lt_of_le hr (Nat.pow_le_pow_right (by omega) hi))
  have h10 := h.i10
  have e : s.chM a b = s.chTo a b (s.ins.length + (16 - s.ins.length)) := by
    unfold chM less chTo
    rw [isum_filter, isum_filter, isum_add, show s.ins.length + (16 - s.ins.length) = 16 by omega]
    rfl
  rw [e]
  unfold chTo
  rw [isum_range_ext]
  intro i hi
  unfold chG
  rw [hz _ h1 i hi, hz _ h2 i hi]
  rfl
theorem chG_bd {s : Sh} (h : s.Ok) (a b k : Nat) : 0 ≤ s.chG a b k ∧ s.chG a b k ≤ 60 := by
  have h1 := getD_bd h.ins (by omega) k
  have h2 := getD_bd h.outs (by omega) k
  unfold chG
  split <;> split <;> omega
theorem chTo_bd {s : Sh} (h : s.Ok) (a b : Nat) : ∀ k : Nat, 0 ≤ s.chTo a b k ∧ s.chTo a b k ≤ 60 * k
  | 0 => by unfold chTo; simp [isum]
  | k + 1 => by
    have h1 := chTo_bd h a b k
    have h2 := chG_bd h a b k
    rw [chTo_succ]
    omega
end Sh
theorem nodup_snoc {l : List Int} {i : Nat} (hi : i < l.length) (h1 : (l.take i).Nodup) (h2 : ∀ x ∈ l.take i, x ≠ l[i]) : (l.take (i + 1)).Nodup := by
  rw [List.take_succ_eq_append_getElem hi, List.nodup_append]
  exact ⟨h1, by simp, fun a ha b hb => by simp at hb; rw [hb]; exact h2 a ha⟩
end Go.Pg
namespace Go.Proofs.Ytcnidhcdkbfpcaa
open Go.RowKit Go.Bs Go.Pg Go.Pl Go.Sort
set_option maxRecDepth 100000 in
set_option maxHeartbeats 1000000 in
theorem Order_any (s : Sh) (p : ShP) (A : Option Addr) (n c : Nat) (l : List Int) (w : World) (h : ShM w s p) (hn : l.length = n) (hm : n ≤ 9223372036854775807) (hd : Cells w A 1 encI l) :
    Calls Try.prog 25 #[shV s p, .slice A n c] w fun e w' => e = .returned (.bool (ordB s.acts.length l)) ∧ Below w.heap.size w w' := by
  have m1 := h.small.1
  have hb0 := ext_alloc w (.cells (shC s p).toArray 26)
  have hS := Blk.new w 26 (shC s p)
  have hd0 := hd.ext hb0
  generalize hres : ordB s.acts.length l = res
  have Hf := Lib.hid (show res = true → _ from fun hr => ord_iff.1 (hres.trans hr))
  have Ht := Lib.hid (show _ → res = true from fun hr => hres.symm.trans (ord_iff.2 hr))
  have Hn := Lib.hid hn
  clear hres hn h hd
  unfold shV at *
  unfold shC at *
  go_enter Try.func25, Try.ntmps25
  go_upto_region 1 with fail
  change Blk (w.alloc (.cells #[.slice p.A s.acts.length p.cA, .slice p.R s.rest.length p.cR, .slice p.I s.ins.length p.cI, .slice p.O s.outs.length p.cO, .int .i64 s.cover, .int .i64 s.dull, .slice p.B s.before.length p.cB] 26)) _ _ _ at hS
  generalize w.alloc (.cells #[.slice p.A s.acts.length p.cA, .slice p.R s.rest.length p.cR, .slice p.I s.ins.length p.cI, .slice p.O s.outs.length p.cO, .int .i64 s.cover, .int .i64 s.dull, .slice p.B s.before.length p.cB] 26) = W0 at *
  go_wp2
  go_loopw [5] (fun t wr => ∃ i : Nat, t = .int .i64 i ∧ i ≤ n ∧ Hid (∀ x ∈ l.take i, 0 ≤ x ∧ x < s.acts.length) ∧ Hid ((l.take i).Nodup) ∧ Below W0.heap.size W0 wr) (fun t _ => n - (intOf t).toNat)
  case atStart => exact ⟨0, rfl, by omega, Lib.hid (by simp), Lib.hid (by simp), Below.refl _ _⟩
  case round =>
    obtain ⟨i, rfl, hi, Hk, Hd, hbr⟩ := hrel
    have hSr := hS.ext hbr
    by_cases hlt : i < n
    · have hlt' : (i : Int) < (n : Int) := by omega
      have hi0 : (0 : Int) ≤ i := by omega
      have hil : i < l.length := by rw [Hn.out]; exact hlt
      go_upto_region 4 with fail
      refine Dr.wp_region_plan 10 [] (.q [0, 1, 2, 3, 4, 5, 6, 7] (.e1 8 (.q [9] .done))) (by kernel_rfl) (by kernel_rfl) ?_
      have hbd := hbr.drew
      have hSd := hSr.ext (ext_drew wr)
      clear hbr hSr
      generalize World.drew _ = W at *
      obtain ⟨b, off, hA, hbl, c0⟩ := (hd0.ext hbd).at1 hil rfl
      have CI := Lib.hid (In_any l[i] 0 (s.acts.length - 1) W)
      have Hno := Lib.hid (show ¬ (0 ≤ l[i] ∧ l[i] < s.acts.length) → res = false from fun hx => by
        cases hr : res
        · rfl
        · exact absurd ((Hf.out hr).2.1 _ (List.getElem_mem hil)) hx)
      have Hyes := Lib.hid (fun (hx : 0 ≤ l[i] ∧ l[i] < s.acts.length) => take_all hil Hk.out hx)
      have Hnd := Lib.hid (fun (h2 : ∀ x ∈ l.take i, x ≠ l[i]) => nodup_snoc hil Hd.out h2)
      have Hdup := Lib.hid (fun k (hk : k < i) (hk2 : k < l.length) (he : l[k] = l[i]) => show res = false by
        cases hr : res
        · rfl
        · exact absurd he (List.pairwise_iff_getElem.1 (List.nodup_iff_pairwise_ne.1 (Hf.out hr).2.2) k i hk2 hil hk))
      have hd2 := hd0.ext hbd
      subst hA
      have q0 := Dr.cell0 c0
      have q1 := Dr.cell0 (hSd.cell (i := 0) rfl)
      generalize hli : l[i] = li at *
      have Hli := Lib.hid hli
      clear hli hbl hd2 Hk Hd
      refine Dr.plan_q (l := [_, _, _, _, _, _, _, _]) rfl (fun K hK => ?_)
      iterate 8 (go_big_quiet_step (fail))
      refine wpQuiet_nil (hK _ ?_); clear hK K q0 q1
      refine Dr.plan_e rfl (by rfl) (fun K hK => ?_)
      go_wp2_with fail
      refine CI.out.mono ?_; rintro e w1 ⟨rfl, rfl⟩
      refine hK _ _ (Dr.Bel.refl _ _) ?_; clear hK K CI
      refine Dr.plan_q (l := [_]) rfl (fun K hK => ?_)
      iterate 1 (go_big_quiet_step (fail))
      refine wpQuiet_nil (hK _ ?_); clear hK K
      refine Dr.plan_end rfl ?_
      cases hb : btw li 0 (s.acts.length - 1)
      · have Hr := Lib.hid (Hno.out (fun hx => btw_no hb (by omega)))
        clear hb
        go_wp2
        go_ret
        exact ⟨ret_congr (bool_congr Hr.out.symm), hb0.trans (hbd.mono hb0.size)⟩
      have HY := Lib.hid (Hyes.out (by have := btw_iff.1 hb; omega))
      clear hb
      go_upto_region 6 with fail
      go_wp2
      generalize wr = w4 at *
      go_loopw [6] (fun t wq => ∃ k : Nat, t = .int .i64 k ∧ k ≤ i ∧ Hid (∀ x ∈ l.take k, x ≠ li) ∧ Below W.heap.size W wq) (fun t _ => i - (intOf t).toNat)
      case atStart => exact ⟨0, rfl, by omega, Lib.hid (by simp), Below.refl _ _⟩
      case round =>
        obtain ⟨k, rfl, hk, Hkk, hbs⟩ := hrel
        by_cases hltk : k < i
        · have hltk' : (k : Int) < (i : Int) := by omega
          have hkn' : (k : Int) < (n : Int) := by omega
          have hk0 : (0 : Int) ≤ k := by omega
          have hkl : k < l.length := by omega
          go_upto_region 9 with fail
          refine Dr.wp_region_plan 9 [] (.q [0, 1, 2, 3, 4, 5, 6, 7, 8] .done) (by kernel_rfl) (by kernel_rfl) ?_
          have hbe := hbs.drew
          have c0' : wr.drew.cell? ⟨b, off + i, none⟩ = some _ := (cell_ext c0 hbe)
          obtain ⟨b', off', hA', -, d0⟩ := ((hd0.ext hbd).ext hbe).at1 hkl rfl
          cases hA'
          have q0 := Dr.cell0 c0'
          have q1 := Dr.cell0 d0
          have HD := Lib.hid (fun he => Hdup.out k hltk hkl he)
          have HT := Lib.hid (fun (hne : l[k] ≠ li) => take_all hkl Hkk.out hne)
          generalize l[k] = lk at *
          clear c0' d0 hbs
          generalize World.drew _ = W9 at *
          refine Dr.plan_q (l := [_, _, _, _, _, _, _, _, _]) rfl (fun K hK => ?_)
          iterate 9 (go_big_quiet_step (fail))
          refine wpQuiet_nil (hK _ ?_); clear hK K q0 q1
          refine Dr.plan_end rfl ?_
          by_cases he : lk = li
          · have Hr := Lib.hid (HD.out he)
            have he' : (lk == li) = true := by simp [he]
            have He := Lib.hid he
            clear he
            go_wp2
            go_ret
            exact ⟨ret_congr (bool_congr Hr.out.symm), hb0.trans ((hbd.trans (hbe.mono hbd.size)).mono hb0.size)⟩
          · have HT2 := Lib.hid (HT.out he)
            have he' : (lk == li) = false := by simp [he]
            go_wp2
            go_roundw
            case rel => exact ⟨k + 1, by go_num, by omega, HT2, hbe⟩
            case measure => simp [intOf]; omega
        · obtain rfl : k = i := by omega
          have HN := Lib.hid (Hnd.out Hkk.out)
          go_wp2
          go_roundw
          case rel => exact ⟨k + 1, by go_num, by omega, HY, HN, hbd.trans (hbs.mono hbd.size)⟩
          case measure => simp [intOf]; omega
    · obtain rfl : i = n := by omega
      have x0 : wr.cell? ⟨w.heap.size, 0, none⟩ = _ := hSr.cell (i := 0) rfl
      have hkk := Hk.out
      have hdd := Hd.out
      rw [List.take_of_length_le (by rw [Hn.out]; omega)] at hkk hdd
      by_cases he : i = s.acts.length
      · have Hr := Lib.hid (Ht.out ⟨Hn.out.trans he, hkk, hdd⟩)
        have he' : ((i : Int) == (s.acts.length : Int)) = true := by simp; omega
        clear hkk hdd
        have He := Lib.hid he
        clear he
        go_wp2
        go_ret
        exact ⟨ret_congr (bool_congr Hr.out.symm), hb0.trans (hbr.mono hb0.size)⟩
      · have Hr := Lib.hid (show res = false by cases hr : res; rfl; exact absurd (Hn.out.symm.trans (Hf.out hr).1) he)
        have he' : ((i : Int) == (s.acts.length : Int)) = false := by simp; omega
        clear hkk hdd
        go_wp2
        go_ret
        exact ⟨ret_congr (bool_congr Hr.out.symm), hb0.trans (hbr.mono hb0.size)⟩
end Go.Proofs.Ytcnidhcdkbfpcaa

/- Walk: policies. -/
import Derived.Deep.DeepCutAuto
import Derived.Deep.CutBlock
import Derived.BigRegion
import Derived.Test.YtnjdlhhgnamigaaGreatAllA
namespace Go.Proofs.YtnjdlhhgnamigaaGreat
open Go.RowKit Go.Bs Go.Pu Go.Pl Go.Sort

theorem pays_snoc (p : Pol) (x : Int) : ∀ (l : List Int) (left : Int), p.pays left (l ++ [x]) = p.pays left l ++ [min (left - isum (p.pays left l)) (p.due x)]
  | [], left => by simp [Pol.pays, isum]
  | y :: l, left => by
    rw [List.cons_append]
    show _ :: p.pays _ (l ++ [x]) = _
    rw [pays_snoc p x l]
    show _ = _ :: (p.pays _ l ++ [min (left - (min left (p.due y) + isum (p.pays (left - min left (p.due y)) l))) (p.due x)])
    rw [show left - (min left (p.due y) + isum (p.pays (left - min left (p.due y)) l)) = left - min left (p.due y) - isum (p.pays (left - min left (p.due y)) l) by omega]
theorem pays_len (p : Pol) : ∀ (l : List Int) (left : Int), (p.pays left l).length = l.length
  | [], _ => rfl
  | y :: l, left => by show (p.pays _ l).length + 1 = l.length + 1; rw [pays_len p l]

set_option maxRecDepth 100000 in
set_option maxHeartbeats 2000000 in
theorem Claims_any (p : Pol) (A : Option Addr) (n c : Nat) (l : List Int) (w : World) (hn : l.length = n) (hm : n ≤ 1000000) (hd : Cells w A 1 encI l) :
    Calls Tryz.prog 23 #[Pol.val p, .slice A n c] w fun e w' => ∃ v, e = .returned (.tuple #[v, .int .i64 (claimsR p l).2]) ∧ FreshL w w' 1 encI v (claimsR p l).1 ∧ Below w.heap.size w w' := by
  have hb0 := ext_alloc w (.cells #[.int .i64 p.least, .int .i64 p.part, .int .i64 p.most] 73)
  have hpv : Pol.val p = .agg #[.int .i64 p.least, .int .i64 p.part, .int .i64 p.most] := rfl
  rw [hpv]; clear hpv
  have C1 := Lib.hid (fun W => money_any p.least W)
  have C2 := Lib.hid (fun W => within_any p.part 0 1000 W)
  have C3 := Lib.hid (fun W => money_any p.most W)
  have C4 := Lib.hid (all_int 44 #[] monB A n c l _ (enters_of Tryz.func44 (by kernel_rfl) rfl) hn (by omega) (hd.ext hb0) (mon_ok l _))
  generalize hq1 : monB p.least = b1 at *
  generalize hq2 : decide (0 ≤ p.part ∧ p.part ≤ 1000) = b2 at *
  generalize hq3 : monB p.most = b3 at *
  generalize hq4 : l.all monB = b4 at *
  generalize hres : claimsR p l = res
  have hok : p.okB = (b1 && (b2 && b3)) := by rw [← hq1, ← hq2, ← hq3]; rfl
  have hbad : (b1 && (b2 && b3)) = false → res = ([], 1) := fun h => by rw [← hres]; unfold claimsR; rw [hok, h, if_neg (by simp)]
  have hlong : (b1 && (b2 && b3)) = true → 50 < n → res = ([], 3) := fun h h2 => by rw [← hres]; unfold claimsR; rw [hok, h, if_pos rfl, if_pos (by omega)]
  have hrng : (b1 && (b2 && b3)) = true → ¬ 50 < n → b4 = false → res = ([], 2) := fun h h2 h3 => by rw [← hres]; unfold claimsR lossB; rw [hok, h, if_pos rfl, if_neg (by omega)]; change (if l.all monB = true then _ else _) = _; rw [hq4, h3]; rfl
  have hfine : (b1 && (b2 && b3)) = true → ¬ 50 < n → b4 = true → res = (p.pays p.most l, 0) := fun h h2 h3 => by rw [← hres]; unfold claimsR lossB; rw [hok, h, if_pos rfl, if_neg (by omega)]; change (if l.all monB = true then _ else _) = _; rw [hq4, h3]; rfl
  have Hbad := Lib.hid hbad
  have Hlong := Lib.hid hlong
  have Hrng := Lib.hid hrng
  have Hfine := Lib.hid hfine
  have Hq1 := Lib.hid hq1
  have Hq2 := Lib.hid hq2
  have Hq3 := Lib.hid hq3
  have Hq4 := Lib.hid hq4
  have Hn := Lib.hid hn
  clear hbad hlong hrng hfine hres hok hq1 hq2 hq3 hq4 hn
  go_enter Tryz.func23, Tryz.ntmps23
  go_wp2_with fail
  refine (C1.out _).mono ?_; rintro e w1 ⟨rfl, rfl⟩
  cases b1
  · go_wp2
    go_ret2
    rw [Hbad.out rfl]
    exact ⟨_, rfl, FreshL.nil _ _ _ _, hb0⟩
  go_wp2_with fail
  refine (C2.out _).mono ?_; rintro e w1 ⟨rfl, rfl⟩
  cases b2
  · go_wp2
    go_ret2
    rw [Hbad.out rfl]
    exact ⟨_, rfl, FreshL.nil _ _ _ _, hb0⟩
  go_wp2_with fail
  refine (C3.out _).mono ?_; rintro e w1 ⟨rfl, rfl⟩
  cases b3
  · go_wp2
    go_ret2
    rw [Hbad.out rfl]
    exact ⟨_, rfl, FreshL.nil _ _ _ _, hb0⟩
  by_cases h50 : 50 < n
  · have h50' : (50 : Int) < n := by omega
    go_wp2
    go_ret2
    rw [Hlong.out rfl h50]
    exact ⟨_, rfl, FreshL.nil _ _ _ _, hb0⟩
  have h50' : ¬ (50 : Int) < n := by omega
  go_wp2_with fail
  refine C4.out.mono ?_; rintro e w1 ⟨rfl, hb1⟩
  cases b4
  · go_wp2
    go_ret2
    rw [Hrng.out rfl h50 (by simp)]
    exact ⟨_, rfl, FreshL.nil _ _ _ _, ext_trans hb0 hb1⟩
  have hB0 : Blk w1 w.heap.size 73 [.int .i64 p.least, .int .i64 p.part, .int .i64 p.most] := (Blk.new w 73 [.int .i64 p.least, .int .i64 p.part, .int .i64 p.most]).ext hb1
  have hb00 := ext_trans hb0 hb1
  have x2 : w1.cell? ⟨w.heap.size, 2, none⟩ = _ := hB0.cell rfl
  have hd1 := hd.ext hb00
  clear hb0 hb1 hd C4 C1 C2 C3
  go_wp2
  clear x2
  have hb3 := Hq1.out
  have hp2 := Hq2.out
  have hm3 := Hq3.out
  unfold monB at hb3 hm3
  have hb3 := of_decide_eq_true hb3
  have hp2 := of_decide_eq_true hp2
  have hm3 := of_decide_eq_true hm3
  go_loopw [7, 9, 41] (fun v _ x wr => ∃ (k : Nat) (left : Int), x = .int .i64 k ∧ k ≤ n ∧ OwnL wr (w1.heap.size + 1) 3 1 encI v (p.pays p.most (l.take k)) ∧ Blk wr w1.heap.size 99 [.int .i64 left] ∧ (0 ≤ left ∧ left ≤ 1000000000000) ∧ Hid (left = p.most - isum (p.pays p.most (l.take k))) ∧ w1.heap.size + 1 ≤ wr.heap.size ∧ Below w1.heap.size w1 wr) (fun _ _ x _ => n - (intOf x).toNat)
  case atStart => exact ⟨0, p.most, rfl, by omega, OwnL.nil, Blk.new w1 99 [.int .i64 p.most], hm3, Lib.hid (by simp [Pol.pays, isum]), by simp, ext_alloc _ _⟩
  case round =>
    obtain ⟨k, left, rfl, hk, hown, hB, hl, Hleft, hsz, hb⟩ := hrel
    by_cases hlt : k < n
    · have hlt' : (k : Int) < (n : Int) := by omega
      have hkl : k < l.length := by rw [Hn.out]; exact hlt
      obtain ⟨b, off, rfl, -, c0⟩ := (hd1.ext hb).at1 hkl rfl
      have hx := List.all_eq_true.1 Hq4.out l[k] (List.getElem_mem _)
      unfold monB at hx
      have hx := of_decide_eq_true hx
      have hs := pays_snoc p l[k] (l.take k) p.most
      rw [← List.take_succ_eq_append_getElem hkl, ← Hleft.out] at hs
      have hlen := pays_len p (l.take k) p.most
      rw [List.length_take] at hlen
      have HL := Lib.hid hlen
      have Hs := Lib.hid hs
      clear hs hlen
      have y0 := (hB0.ext hb).cell (i := 0) rfl
      have y1 := (hB0.ext hb).cell (i := 1) rfl
      have hdue : p.due l[k] = max 0 (l[k] - p.least) * p.part / 1000 := rfl
      have hmm : ∃ m, max 0 (l[k] - p.least) = m ∧ (0 ≤ m ∧ m ≤ 1000000000000) ∧ ((0 < l[k] - p.least ∧ m = l[k] - p.least) ∨ (¬ 0 < l[k] - p.least ∧ m = 0)) := ⟨_, rfl, by omega, by omega⟩
      obtain ⟨m, e1, e2, e3⟩ := hmm
      rw [e1] at hdue
      have hpr := mul_bd e2.1 e2.2 hp2.1 hp2.2
      have htd : m * p.part / 1000 = p.due l[k] := hdue.symm
      have hdb : 0 ≤ p.due l[k] ∧ p.due l[k] ≤ 1000000000000000 := by rw [hdue]; omega
      clear hdue e1
      have Hd := Lib.hid htd
      clear htd
      generalize l[k] = x at *
      rcases e3 with ⟨h, e⟩ | ⟨h, e⟩
      · subst e
        go_wp2_with fail
        rw [Hd.out]
        refine (pay_any w1.heap.size left (p.due x) wr (by omega) (by omega) hB).mono ?_; rintro e w2 ⟨rfl, hw2⟩
        have hB2 : Blk w2 w1.heap.size 99 [.int .i64 (left - min left (p.due x))] := by rw [hw2]; exact hB.set 0 _
        have ho2 := hown.setCell (p := ⟨w1.heap.size, 0, none⟩) (by simp) (.int .i64 (left - min left (p.due x)))
        rw [← hw2] at ho2
        have hb2 : Below w1.heap.size w1 w2 := by rw [hw2]; exact hb.setCell (Nat.le_refl _) _
        have hsz2 : w1.heap.size + 1 ≤ w2.heap.size := by rw [hw2]; simpa using hsz
        clear hw2 hB hown hb
        generalize hq : min left (p.due x) = q at *
        have hq' : 0 ≤ q ∧ q ≤ left := by omega
        have Hq := Lib.hid hq
        clear hq
        have hnew := Blk.new w2 3 [.int .i64 q]
        go_wp2_with (at_builtin; refine app1 encI 22 3 1 8 et27 (by decide) (by decide) encI_len encI_one rfl _ _ rfl (w1.heap.size + 1) _ (p.pays p.most (l.take k)) rfl (ho2.alloc _) w2.heap.size rfl q (encI_cell (hnew.cell rfl)) (by rw [HL.out]; omega) (by simp; omega) ?_; intro g' cap' w' hown' hb3 _ _)
        have Hr := Lib.hid (show left - q = p.most - isum (p.pays p.most (l.take (k + 1))) by
          rw [Hs.out, isum_append, show isum [q] = q by simp [isum]]
          have := Hleft.out
          omega)
        rw [← Hs.out] at hown'
        have hB3 : Blk w' w1.heap.size 99 [.int .i64 (left - q)] := (hB2.alloc _).under hb3 (Nat.lt_succ_self _)
        have hb4 := (hb2.alloc (by omega) _).trans (hb3.mono (by omega))
        have hsz3 := hb3.size
        go_roundw
        case rel => exact ⟨k + 1, left - q, by go_num, by omega, hown', hB3, by omega, Hr, by simp at hsz3; omega, hb4⟩
        case measure => simp [intOf]; omega
      · subst e
        rw [Int.zero_mul] at Hd
        go_wp2_with fail
        rw [← show (0 : Int) = p.due x from Hd.out] at Hs hdb
        refine (pay_any w1.heap.size left 0 wr (by omega) (by omega) hB).mono ?_; rintro e w2 ⟨rfl, hw2⟩
        have hB2 : Blk w2 w1.heap.size 99 [.int .i64 (left - min left 0)] := by rw [hw2]; exact hB.set 0 _
        have ho2 := hown.setCell (p := ⟨w1.heap.size, 0, none⟩) (by simp) (.int .i64 (left - min left 0))
        rw [← hw2] at ho2
        have hb2 : Below w1.heap.size w1 w2 := by rw [hw2]; exact hb.setCell (Nat.le_refl _) _
        have hsz2 : w1.heap.size + 1 ≤ w2.heap.size := by rw [hw2]; simpa using hsz
        clear hw2 hB hown hb
        generalize hq : min left 0 = q at *
        have hq' : 0 ≤ q ∧ q ≤ left := by omega
        have Hq := Lib.hid hq
        clear hq
        have hnew := Blk.new w2 3 [.int .i64 q]
        go_wp2_with (at_builtin; refine app1 encI 22 3 1 8 et27 (by decide) (by decide) encI_len encI_one rfl _ _ rfl (w1.heap.size + 1) _ (p.pays p.most (l.take k)) rfl (ho2.alloc _) w2.heap.size rfl q (encI_cell (hnew.cell rfl)) (by rw [HL.out]; omega) (by simp; omega) ?_; intro g' cap' w' hown' hb3 _ _)
        have Hr := Lib.hid (show left - q = p.most - isum (p.pays p.most (l.take (k + 1))) by
          rw [Hs.out, isum_append, show isum [q] = q by simp [isum]]
          have := Hleft.out
          omega)
        rw [← Hs.out] at hown'
        have hB3 : Blk w' w1.heap.size 99 [.int .i64 (left - q)] := (hB2.alloc _).under hb3 (Nat.lt_succ_self _)
        have hb4 := (hb2.alloc (by omega) _).trans (hb3.mono (by omega))
        have hsz3 := hb3.size
        go_roundw
        case rel => exact ⟨k + 1, left - q, by go_num, by omega, hown', hB3, by omega, Hr, by simp at hsz3; omega, hb4⟩
        case measure => simp [intOf]; omega
    · obtain rfl : k = n := by omega
      go_wp2
      go_ret2
      rw [Hfine.out rfl h50 (by simp)]
      rw [List.take_of_length_le (by rw [Hn.out]; omega)] at hown
      exact ⟨_, rfl, FreshL.of_own hown encI_len (by have := hb00.size; omega), ext_trans hb00 hb⟩
end Go.Proofs.YtnjdlhhgnamigaaGreat

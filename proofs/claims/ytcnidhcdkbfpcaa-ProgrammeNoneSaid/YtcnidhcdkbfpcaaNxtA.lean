/- Walk: next (the next permutation of a row of the caller's). -/
import Derived.Test.YtcnidhcdkbfpcaaNxtP
import Derived.Test.YtcnidhcdkbfpcaaPrlL
import Derived.BigRegion
namespace Go.Proofs.Ytcnidhcdkbfpcaa
open Go.RowKit Go.Bs Go.Pg Go.Pl Go.Sort
theorem own_cell {w : World} {bs g n c : Nat} {l : List Int} (h : OwnL w bs 3 1 encI (.slice (some ⟨g, 0, none⟩) n c) l) {i : Nat} (hi : i < l.length) : w.cell? ⟨g, i, none⟩ = some (.int .i64 (l.getD i 0)) ∧ w.frozen? ⟨g, i, none⟩ = false := by
  obtain ⟨g', cap, hv, -, -, -, -, hc, hf⟩ := h.blk encI_len (by omega)
  injection hv with e1 e2 e3
  injection e1 with e1
  injection e1 with e1
  subst e1
  obtain ⟨b, off, hA, -, c0⟩ := hc.at1 hi rfl
  cases hA
  rw [Nat.zero_add] at c0
  refine ⟨?_, hf i⟩
  rw [c0]
  simp [hi]
theorem own_swap {w : World} {bs g n c : Nat} {l : List Int} (h : OwnL w bs 3 1 encI (.slice (some ⟨g, 0, none⟩) n c) l) {i k : Nat} (hi : i < l.length) (hk : k < l.length) : OwnL ((w.setCell ⟨g, i, none⟩ (.int .i64 (l.getD k 0))).setCell ⟨g, k, none⟩ (.int .i64 (l.getD i 0))) bs 3 1 encI (.slice (some ⟨g, 0, none⟩) n c) (Nxt.swp l i k) :=
  OwnL.set1 (OwnL.set1 h hi _) (by simpa using hk) _
theorem own_ge {w : World} {bs g n c : Nat} {l : List Int} (h : OwnL w bs 3 1 encI (.slice (some ⟨g, 0, none⟩) n c) l) : bs ≤ g ∧ g < w.heap.size := h.lt rfl
theorem rev_end {a b : Nat} (h : ¬ a < b) (L : List Int) : ∀ f, Nxt.rev L a b f = L
  | 0 => rfl
  | f + 1 => by unfold Nxt.rev; rw [if_neg h]
theorem swp_len (l : List Int) (a b : Nat) : (Nxt.swp l a b).length = l.length := by unfold Nxt.swp; simp
set_option maxRecDepth 100000 in
set_option maxHeartbeats 10000000 in
theorem next_any (bs g n c : Nat) (l : List Int) (w : World) (h : OwnL w bs 3 1 encI (.slice (some ⟨g, 0, none⟩) n c) l) (hn : l.length = n) (h1 : 1 ≤ n) (h2 : n ≤ 1000) :
    Calls Try.prog 35 #[.slice (some ⟨g, 0, none⟩) n c] w fun e w' => e = .returned (.bool (Nxt.next l).isSome) ∧ Below bs w w' ∧ OwnL w' bs 3 1 encI (.slice (some ⟨g, 0, none⟩) n c) ((Nxt.next l).getD l) := by
  have HN := Lib.hid (show Nxt.piv l (n - 1) = none → Nxt.next l = none from fun e => by unfold Nxt.next; rw [hn, e])
  have HS := Lib.hid (show ∀ k, Nxt.piv l (n - 1) = some k → Nxt.next l = some (Nxt.rev (Nxt.swp l k (Nxt.gtr l (l.getD k 0) (n - 1))) (k + 1) (n - 1) n) from fun k e => by unfold Nxt.next; rw [hn, e])
  generalize Nxt.next l = r at *
  have HO := Lib.hid (fun W (hb : Below w.heap.size w W) => h.ext hb)
  have Hlen := Lib.hid hn
  have Hge := Lib.hid (own_ge h)
  clear h hn
  go_enter Try.func35, Try.ntmps35
  go_upto_block 0 with fail
  go_wp2
  go_loopw [3] (fun t wr => ∃ i : Int, t = .int .i64 i ∧ -1 ≤ i ∧ i ≤ (n : Int) - 2 ∧ Hid (Nxt.piv l (i + 1).toNat = Nxt.piv l (n - 1)) ∧ Below w.heap.size w wr) (fun t _ => (intOf t + 1).toNat)
  case atStart => exact ⟨(n : Int) - 2, by go_num, by omega, by omega, Lib.hid (by congr 1; omega), Below.refl _ _⟩
  case round =>
    obtain ⟨i, rfl, hi1, hi2, Hp, hb⟩ := hrel
    by_cases hi0 : 0 ≤ i
    · obtain ⟨k, rfl⟩ : ∃ k : Nat, i = k := ⟨i.toNat, by omega⟩
      obtain ⟨k1, hk1⟩ : ∃ k1 : Nat, k1 = k + 1 := ⟨_, rfl⟩
      have e1 : (k : Int) + 1 = (k1 : Int) := by omega
      have hkn : (k : Int) < (n : Int) := by omega
      have hkn1 : (k1 : Int) < (n : Int) := by omega
      have hk10 : (0 : Int) ≤ (k1 : Int) := by omega
      have hgi : (k : Int) ≥ 0 := hi0
      have c0 := (own_cell (HO.out wr hb) (i := k) (by rw [Hlen.out]; omega)).1
      have c1 := (own_cell (HO.out wr hb) (i := k1) (by rw [Hlen.out]; omega)).1
      have hpe : Nxt.piv l (k + 1) = if l.getD k 0 < l.getD k1 0 then some k else Nxt.piv l k := by rw [hk1]; rfl
      rw [show ((k : Int) + 1).toNat = k + 1 by omega] at Hp
      have Hpe := Lib.hid hpe
      have Hk1 := Lib.hid hk1
      generalize hx : l.getD k 0 = x at *
      generalize hy : l.getD k1 0 = y at *
      have Hx := Lib.hid hx
      have Hy := Lib.hid hy
      clear hpe hk1 hx hy
      go_upto_region 2 with fail
      refine Dr.wp_region_plan 14 [] (.q [0, 1, 2, 3, 4, 5, 6, 7, 8, 9, 10, 11, 12, 13] .done) (by kernel_rfl) (by kernel_rfl) ?_
      have q0 := Dr.cell0 (w := wr.drew) (show wr.drew.cell? _ = _ from c0)
      have q1 := Dr.cell0 (w := wr.drew) (show wr.drew.cell? _ = _ from c1)
      have hbd := ext_trans hb (ext_drew wr)
      clear hb c0 c1
      generalize World.drew _ = V at *
      refine Dr.plan_q (l := [_, _, _, _, _, _, _, _, _, _, _, _, _, _]) rfl (fun K hK => ?_)
      iterate 14 (go_big_quiet_step (fail))
      refine wpQuiet_nil (hK _ ?_); clear hK K q0 q1
      refine Dr.plan_end rfl ?_
      by_cases hxy : x < y
      · have hge : ¬ x ≥ y := by omega
        have HS2 := Lib.hid (HS.out k (by rw [← Hp.out, Hpe.out, if_pos hxy]))
        clear HS HN Hp Hpe
        go_upto_block 2 with fail
        go_wp2
        clear hge
        have hk1n : (k1 : Int) ≤ (n : Int) - 1 := by omega
        have hcl : l.getD k 0 < l.getD k1 0 := by rw [Hx.out, Hy.out]; exact hxy
        have Hcl := Lib.hid hcl
        clear hcl hxy Hx Hy hk10 hkn1 e1 hgi hi0 hi1 hi2
        go_loopw [4] (fun t wq => ∃ m : Nat, t = .int .i64 m ∧ k + 1 ≤ m ∧ m ≤ n - 1 ∧ Hid (Nxt.gtr l (l.getD k 0) m = Nxt.gtr l (l.getD k 0) (n - 1)) ∧ Below w.heap.size w wq) (fun t _ => (intOf t).toNat)
        case atStart => exact ⟨n - 1, by go_num, by have := Hk1.out; omega, by omega, Lib.hid rfl, hbd⟩
        case round =>
          clear hbd
          obtain ⟨m, rfl, hm1, hm2, Hg, hb⟩ := hrel
          have hmn : (m : Int) < (n : Int) := by omega
          have hm0 : (0 : Int) ≤ (m : Int) := by omega
          have hk0 : (0 : Int) ≤ (k : Int) := by omega
          have c0 := (own_cell (HO.out wr hb) (i := m) (by rw [Hlen.out]; omega)).1
          have c1 := (own_cell (HO.out wr hb) (i := k) (by rw [Hlen.out]; omega)).1
          generalize hx : l.getD m 0 = x at *
          generalize hy : l.getD k 0 = y at *
          have Hx := Lib.hid hx
          have Hy := Lib.hid hy
          clear hx hy
          go_upto_region 7 with fail
          refine Dr.wp_region_plan 9 [] (.q [0, 1, 2, 3, 4, 5, 6, 7, 8] .done) (by kernel_rfl) (by kernel_rfl) ?_
          have q0 := Dr.cell0 (w := wr.drew) (show wr.drew.cell? _ = _ from c0)
          have q1 := Dr.cell0 (w := wr.drew) (show wr.drew.cell? _ = _ from c1)
          have hbd := ext_trans hb (ext_drew wr)
          clear hb c0 c1
          generalize World.drew _ = V at *
          refine Dr.plan_q (l := [_, _, _, _, _, _, _, _, _]) rfl (fun K hK => ?_)
          iterate 9 (go_big_quiet_step (fail))
          refine wpQuiet_nil (hK _ ?_); clear hK K q0 q1
          refine Dr.plan_end rfl ?_
          by_cases hxy : x ≤ y
          · obtain ⟨m1, rfl⟩ : ∃ m1, m = m1 + 1 := ⟨m - 1, by omega⟩
            have Hg2 := Lib.hid (show Nxt.gtr l y m1 = Nxt.gtr l y (n - 1) by
              rw [← Hg.out]
              conv => rhs; unfold Nxt.gtr
              rw [Hx.out, if_neg (by omega)])
            have hmk : k + 1 ≤ m1 := by
              rcases Nat.lt_or_ge k m1 with h1 | h1
              · exact h1
              · exfalso
                have e1 : m1 + 1 = k1 := by have := Hk1.out; omega
                have := Hcl.out
                rw [← e1, Hx.out] at this
                omega
            clear Hg
            go_wp2
            go_roundw
            case rel => exact ⟨m1, by go_num, by omega, by omega, Hg2, hbd⟩
            case measure => simp [intOf] <;> omega
          · have Hg2 := Lib.hid (show Nxt.gtr l y (n - 1) = m by
              obtain ⟨m1, rfl⟩ : ∃ m1, m = m1 + 1 := ⟨m - 1, by omega⟩
              rw [← Hg.out]
              unfold Nxt.gtr
              rw [Hx.out, if_pos (by omega)])
            have HR := Lib.hid (show r = some (Nxt.rev (Nxt.swp l k m) (k + 1) (n - 1) n) by rw [HS2.out, Hg2.out])
            clear Hg Hg2 HS2
            have f0 := (own_cell (HO.out V hbd) (i := k) (by rw [Hlen.out]; omega)).2
            have f1 := (own_cell (HO.out V hbd) (i := m) (by rw [Hlen.out]; omega)).2
            have c0 := (own_cell (HO.out V hbd) (i := m) (by rw [Hlen.out]; omega)).1
            have c1 := (own_cell (HO.out V hbd) (i := k) (by rw [Hlen.out]; omega)).1
            have HM := Lib.hid (own_swap (HO.out V hbd) (i := k) (k := m) (by rw [Hlen.out]; omega) (by rw [Hlen.out]; omega))
            have HbM := Lib.hid (((hbd.mono (show bs ≤ w.heap.size by have := Hge.out; omega)).setCell (p := ⟨g, k, none⟩) (by simpa using Hge.out.1) (.int .i64 (l.getD m 0))).setCell (p := ⟨g, m, none⟩) (by simpa using Hge.out.1) (.int .i64 (l.getD k 0)))
            have Hml := Lib.hid (swp_len l k m)
            rw [Hx.out] at c0 HbM HM
            rw [Hy.out] at c1 HbM HM
            clear HO hbd
            generalize Nxt.swp l k m = M at *
            go_upto_region 9 with fail
            clear hxy
            go_region
            all_goals go_wp2
            have HM2 := Lib.hid (And.intro HbM.out.drew HM.out.drew)
            clear HM HbM f0 f1 c0 c1
            generalize World.drew _ = V2 at *
            go_loopw [5, 6] (fun ta tb wq => ∃ (a b f : Nat) (L : List Int), ta = .int .i64 a ∧ tb = .int .i64 b ∧ a + 1 ≤ n + b ∧ a ≤ n ∧ b < n ∧ b ≤ a + f ∧ L.length = n ∧ Hid (Nxt.rev L a b f = Nxt.rev M (k + 1) (n - 1) n) ∧ Below bs w wq ∧ OwnL wq bs 3 1 encI (.slice (some ⟨g, 0, none⟩) n c) L) (fun ta tb _ => (intOf tb - intOf ta).toNat)
            case atStart => exact ⟨k + 1, n - 1, n, M, by go_num, by go_num, by omega, by omega, by omega, by omega, by rw [Hml.out, Hlen.out], Lib.hid rfl, HM2.out.1, HM2.out.2⟩
            case round =>
              clear HM2 Hml
              obtain ⟨a, b, f, L, rfl, rfl, ha1, han, hbn, hf, hL, HE, hb, ho⟩ := hrel
              by_cases hab : a < b
              · have hab' : (a : Int) < (b : Int) := by omega
                have ha0 : (0 : Int) ≤ (a : Int) := by omega
                have hb0 : (0 : Int) ≤ (b : Int) := by omega
                have hann : (a : Int) < (n : Int) := by omega
                have hbnn : (b : Int) < (n : Int) := by omega
                have f0 := (own_cell ho (i := a) (by omega)).2
                have f1 := (own_cell ho (i := b) (by omega)).2
                have c0 := (own_cell ho (i := a) (by omega)).1
                have c1 := (own_cell ho (i := b) (by omega)).1
                have HM := Lib.hid (own_swap ho (i := a) (k := b) (by omega) (by omega))
                have HbM := Lib.hid ((hb.setCell (p := ⟨g, a, none⟩) (by simpa using Hge.out.1) (.int .i64 (L.getD b 0))).setCell (p := ⟨g, b, none⟩) (by simpa using Hge.out.1) (.int .i64 (L.getD a 0)))
                have Hml := Lib.hid (show (Nxt.swp L a b).length = n by rw [swp_len, hL])
                have HE2 := Lib.hid (show Nxt.rev (Nxt.swp L a b) (a + 1) (b - 1) (f - 1) = Nxt.rev M (k + 1) (n - 1) n by
                  rw [← HE.out]
                  obtain ⟨f1, rfl⟩ : ∃ f1, f = f1 + 1 := ⟨f - 1, by omega⟩
                  conv => rhs; unfold Nxt.rev
                  rw [if_pos hab]; rfl)
                generalize L.getD a 0 = x at *
                generalize L.getD b 0 = y at *
                generalize Nxt.swp L a b = L2 at *
                clear ho hb HE hL
                go_upto_region 13 with fail
                go_region
                all_goals go_wp2
                have HM2 := Lib.hid (And.intro HbM.out.drew HM.out.drew)
                clear HM HbM f0 f1 c0 c1
                generalize World.drew _ = V3 at *
                go_roundw
                case rel => exact ⟨a + 1, b - 1, f - 1, L2, by go_num, by go_num, by omega, by omega, by omega, by omega, Hml.out, HE2.out, HM2.out.1, HM2.out.2⟩
                case measure => simp [intOf] <;> omega
              · have hab' : ¬ (a : Int) < (b : Int) := by omega
                have hr : r = some L := by rw [HR.out, ← HE.out, rev_end hab]
                have HF := Lib.hid (And.intro hb ho)
                clear HE ho hb HR
                subst hr
                go_wp2
                go_ret
                exact ⟨rfl, HF.out.1, HF.out.2⟩
      · have hge : x ≥ y := by omega
        have Hp2 := Lib.hid (show Nxt.piv l k = Nxt.piv l (n - 1) by rw [← Hp.out, Hpe.out, if_neg hxy])
        clear hxy Hp Hpe
        go_wp2
        go_roundw
        case rel => exact ⟨(k : Int) - 1, by go_num, by omega, by omega, by rw [show ((k : Int) - 1 + 1).toNat = k by omega]; exact Hp2, hbd⟩
        case measure => simp [intOf] <;> omega
    · obtain rfl : i = -1 := by omega
      obtain rfl := HN.out (by rw [← Hp.out]; rfl)
      have Ho := Lib.hid (HO.out wr hb)
      have Hb := Lib.hid hb
      clear HN HS Hp HO hb
      go_upto_region 2 with fail
      refine Dr.wp_region_plan 14 [] (.q [0, 1, 2, 3, 4, 5, 6, 7, 8, 9, 10, 11, 12, 13] .done) (by kernel_rfl) (by kernel_rfl) ?_
      have Ho2 := Lib.hid (Ho.out.ext (ext_drew wr))
      have Hb2 := Lib.hid (ext_trans Hb.out (ext_drew wr))
      clear Ho Hb
      generalize World.drew _ = V at *
      refine Dr.plan_q (l := [_, _, _, _, _, _, _, _, _, _, _, _, _, _]) rfl (fun K hK => ?_)
      iterate 14 (go_big_quiet_step (fail))
      refine wpQuiet_nil (hK _ ?_); clear hK K
      refine Dr.plan_end rfl ?_
      go_wp2
      go_ret
      exact ⟨rfl, Hb2.out.mono (by have := Hge.out; omega), Ho2.out⟩
end Go.Proofs.Ytcnidhcdkbfpcaa

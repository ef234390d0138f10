/- Walk: is a list an order? -/
import Derived.Test.YtcnidhcdkbfpcaaPrgI
import Derived.Test.YtcnidhcdkbfpcaaPrgS
import Derived.Test.YtcnidhcdkbfpcaaPrgT
namespace Go.Bs
open Go.RowKit Go.Pl Go.Sort
/-- a row of ints of the call's own, with its block -/
theorem OwnL.ints {w : World} {base : Nat} {v : Value} {l : List Int} (h : OwnL w base 3 1 encI v l) :
    (v = .slice none 0 0 ∧ l = []) ∨ ∃ g cap sp, v = .slice (some ⟨g, 0, none⟩) l.length cap ∧ base ≤ g ∧ Blk w g 3 (l.map (Value.int .i64) ++ sp) := by
  rcases h.2 with ⟨rfl, hn⟩ | ⟨g, cap, cur, rfl, hb, hg, hnc, hcm, hcs, htake⟩
  · exact .inl ⟨rfl, List.length_eq_zero_iff.1 hn⟩
  · refine .inr ⟨g, cap, cur.toList.drop (l.length * 1), rfl, hb, ?_⟩
    have e : ∀ l : List Int, l.flatMap encI = l.map (Value.int .i64) := fun l => by
      induction l with
      | nil => rfl
      | cons x l ih => rw [List.flatMap_cons, ih]; rfl
    have e2 : (l.map (Value.int .i64) ++ cur.toList.drop (l.length * 1)).toArray = cur := by
      rw [← e, ← htake, List.take_append_drop]
    unfold Blk
    rw [e2]
    exact hg
end Go.Bs
namespace Go.Proofs.Ytcnidhcdkbfpcaa
open Go.RowKit Go.Bs Go.Pg Go.Pl Go.Sort
set_option maxRecDepth 100000 in
theorem clone_int (A : Option Addr) (n c : Nat) (l : List Int) (w : World) (hn : l.length = n) (hm : n ≤ 1000000) (hd : Cells w A 1 encI l) :
    Calls Try.prog 79 #[.slice A n c] w fun e w' => ∃ v, e = .returned v ∧ OwnL w' w.heap.size 3 1 encI v l ∧ Below w.heap.size w w' := by
  cases A with
  | none =>
    have h0 : l = [] := by
      cases l with
      | nil => rfl
      | cons x l => obtain ⟨b, off, h, -⟩ := hd.at (k := 0) (by simp); cases h
    subst h0
    obtain rfl : n = 0 := by simpa using hn.symm
    have he : ∀ w, (binOp .eql 23 (.slice none 0 c) (.slice none 0 0)).run Try.prog w = .ok (.bool true) w := fun _ => by kernel_rfl
    go_enter Try.func79, Try.ntmps79
    go_wp2
    go_ret
    exact ⟨_, rfl, OwnL.nil, Below.refl _ _⟩
  | some a =>
    have hb0 := ext_alloc w (.cells #[] 3)
    have he : ∀ w, (binOp .eql 23 (.slice (some a) n c) (.slice none 0 0)).run Try.prog w = .ok (.bool false) w := fun _ => by kernel_rfl
    have hd1 := hd.ext hb0
    have ho := own_new w 3 1 encI
    clear hd
    go_enter Try.func79, Try.ntmps79
    go_wp2_with (at_builtin; refine app_rows encI 23 3 1 8 et23 (by decide) (by decide) encI_len encI_one rfl _ _ rfl w.heap.size _ [] rfl ho (some a) n c l hn rfl hd1 (by simp; omega) (by simp) ?_; intro v' w' hown hb _ _)
    go_ret
    exact ⟨_, rfl, by simpa using hown, hb0.trans hb⟩

set_option maxRecDepth 100000 in
set_option maxHeartbeats 1000000 in
theorem ordered_any (s : Sh) (p : ShP) (A : Option Addr) (n c : Nat) (l : List Int) (w : World) (hn : l.length = n) (hm : n ≤ 12) (hd : Cells w A 1 encI l) :
    Calls Try.prog 76 #[shV s p, .slice A n c] w fun e w' => e = .returned (.bool (ordB s.acts.length l)) ∧ Below w.heap.size w w' := by
  have hord := ord_sorted s.acts.length l
  have hb0 := ext_alloc w (.cells (shC s p).toArray 35)
  have hS := Blk.new w 35 (shC s p)
  have hs0 : (w.alloc (.cells (shC s p).toArray 35)).heap.size = w.heap.size + 1 := by simp
  have CC := Lib.hid (clone_int A n c l (w.alloc (.cells (shC s p).toArray 35)) hn (by omega) (hd.ext hb0))
  have Hn := Lib.hid hn
  clear hd hn
  generalize hres : ordB s.acts.length l = res at *
  have Hord := Lib.hid hord
  clear hord hres
  unfold shV
  unfold shC at *
  go_enter Try.func76, Try.ntmps76
  go_upto_region 1 with fail
  generalize w.alloc (.cells #[.slice p.A s.acts.length p.cA, .slice p.R s.rest.length p.cR, .slice p.I s.ins.length p.cI, .slice p.O s.outs.length p.cO, .int .i64 s.cover, .int .i64 s.dull, .slice p.B s.before.length p.cB] 35) = W0 at *
  go_wp2_with fail
  refine CC.out.mono ?_; rintro e W1 ⟨v, rfl, hv, hb1⟩
  have hbw1 := hb0.trans (hb1.mono (by omega))
  have hS1 := hS.ext hb1
  clear CC hS
  rcases hv.ints with ⟨rfl, rfl⟩ | ⟨g, cap, sp, rfl, hg, hB⟩
  · have h0 : n = 0 := Hn.out.symm
    subst h0
    clear hv
    go_wp2_with fail
    refine (sort_nil 0 W1).mono ?_; rintro e w1 ⟨rfl, rfl⟩
    have x0 : W1.cell? ⟨w.heap.size, 0, none⟩ = _ := hS1.cell rfl
    go_wp2
    go_loopw [14] (fun x wr => x = .int .i64 0 ∧ W1 = wr) (fun x _ => 0)
    case atStart => exact ⟨rfl, rfl⟩
    case round =>
      obtain ⟨rfl, rfl⟩ := hrel
      by_cases hz : s.acts.length = 0
      · have hr : res = true := Hord.out.2 ⟨rfl, hz.symm⟩
        subst hr
        have hz' : (s.acts.length : Int) = 0 := by omega
        go_wp2
        go_ret
        exact ⟨ret_congr (bool_congr (by simp)), hbw1⟩
      · have hr : res = false := by
          cases res
          · rfl
          · exact absurd (Hord.out.1 rfl).2.symm hz
        subst hr
        have hz' : ¬ (s.acts.length : Int) = 0 := by omega
        go_wp2
        go_ret
        exact ⟨ret_congr (bool_congr (by first | (simp; done) | (simp; omega))), hbw1⟩
  · rw [Hn.out]
    have CS := Lib.hid (sort_any g 3 n cap l sp W1 Hn.out hm hB)
    clear hv hB
    go_wp2_with fail
    refine CS.out.mono ?_; rintro e W2 ⟨rfl, hb2, hB2⟩
    have hbw2 := hbw1.trans (Dr.Bel.old (n := w.heap.size) hb2 hbw1.size (by simp; omega))
    have hS2 := hb2.blk hS1 (by simp; omega)
    have x0 : W2.cell? ⟨w.heap.size, 0, none⟩ = _ := hS2.cell rfl
    have hSl : (sortL (fun a b => a - b) l).length = n := by rw [sortL_len, Hn.out]
    generalize sortL (fun a b => a - b) l = S at *
    have HSl := Lib.hid hSl
    clear CS hS1 hS2 hb2 hSl
    go_wp2
    go_loopw [14] (fun x wr => ∃ k : Nat, x = .int .i64 k ∧ k ≤ n ∧ Hid (∀ i, i < k → S[i]? = some (i : Int)) ∧ W2 = wr) (fun x _ => n - (intOf x).toNat)
    case atStart => exact ⟨0, rfl, by omega, Lib.hid (fun i hi => by omega), rfl⟩
    case round =>
      obtain ⟨k, rfl, hk, Hk, rfl⟩ := hrel
      by_cases hlt : k < n
      · have hk1 : k < S.length := by rw [HSl.out]; exact hlt
        have c0 : W2.cell? ⟨g, k, none⟩ = some (.int .i64 S[k]) := hB2.cell (i := k) (v := .int .i64 S[k]) (by rw [List.getElem?_append_left (by simpa using hk1), List.getElem?_map, List.getElem?_eq_getElem hk1]; rfl)
        have hlt' : (k : Int) < n := by omega
        have hk0 : (0 : Int) ≤ k := by omega
        by_cases he : S[k] = k
        · have He := Lib.hid he
          have he' : (S[k] != (k : Int)) = false := by simp [he]
          rw [he] at c0
          clear he he'
          go_wp2
          go_roundw
          case rel => exact ⟨k + 1, by go_num, by omega, Lib.hid (fun i hi => by
            rcases Nat.lt_or_ge i k with h | h
            · exact Hk.out i h
            · obtain rfl : i = k := by omega
              rw [List.getElem?_eq_getElem hk1, He.out]), by first | rfl | trivial⟩
          case measure => simp [intOf]; omega
        · have hr : res = false := by
            cases res
            · rfl
            · have h := (Hord.out.1 rfl).1
              refine absurd ?_ he
              have h2 : S[k]? = some (k : Int) := by rw [h]; exact upto_get (by rw [Hn.out]; exact hlt)
              rw [List.getElem?_eq_getElem hk1] at h2
              exact Option.some.inj h2
          subst hr
          generalize S[k] = y at *
          go_wp2
          go_ret
          exact ⟨rfl, hbw2⟩
      · obtain rfl : k = n := by omega
        have hSu : S = upto l.length := by
          apply List.ext_getElem?
          intro i
          rw [Hn.out]
          by_cases hi : i < k
          · rw [Hk.out i hi, upto_get hi]
          · rw [List.getElem?_eq_none (by rw [HSl.out]; omega), List.getElem?_eq_none (by rw [upto_len]; omega)]
        have Hsu := Lib.hid hSu
        clear hSu Hk hB2
        by_cases hz : k = s.acts.length
        · have hr : res = true := Hord.out.2 ⟨Hsu.out, by rw [Hn.out, hz]⟩
          subst hr
          have hz' : ((k : Int) == s.acts.length) = true := by simp; omega
          go_wp2
          go_ret
          exact ⟨ret_congr (bool_congr (by first | (simp; done) | (simp; omega))), hbw2⟩
        · have hr : res = false := by
            cases res
            · rfl
            · exact absurd ((Hn.out).symm.trans (Hord.out.1 rfl).2) hz
          subst hr
          have hz' : ((k : Int) == s.acts.length) = false := by simp; omega
          go_wp2
          go_ret
          exact ⟨ret_congr (bool_congr (by first | (simp; done) | (simp; omega))), hbw2⟩
end Go.Proofs.Ytcnidhcdkbfpcaa

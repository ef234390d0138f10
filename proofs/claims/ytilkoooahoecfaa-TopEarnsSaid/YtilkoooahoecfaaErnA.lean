/- Walks: the document's tour: In, ends, empty, Near, Small. -/
import Derived.Test.YtilkoooahoecfaaErnP
import Derived.Test.YtilkoooahoecfaaDrvA
namespace Go.Proofs.Ytilkoooahoecfaa.Er
open Go.RowKit Go.Bs Go.Pl Go.Sort Go.Er
theorem In_any (n lo hi : Int) (w : World) :
    Calls Try.prog 21 #[.int .i64 n, .int .i64 lo, .int .i64 hi] w fun e w' => e = .returned (.bool (btwE n lo hi)) ∧ w = w' := by
  unfold btwE
  generalize hres : decide (lo ≤ n ∧ n ≤ hi) = res
  have Hres := Lib.hid hres
  clear hres
  by_cases h : lo ≤ n
  · go_enter Try.func21, Try.ntmps21
    go_wp2
    go_ret
    exact ⟨ret_congr (bool_congr (by rw [← Hres.out]; simp [h])), rfl⟩
  · go_enter Try.func21, Try.ntmps21
    go_wp2
    go_ret
    exact ⟨ret_congr (bool_congr (by rw [← Hres.out]; simp; omega)), rfl⟩
def endB (r : Int × Int) (lo hi : Int) : Bool := decide (lo ≤ r.1 ∧ r.1 ≤ r.2 ∧ r.2 ≤ hi)
theorem ends_any (a b lo hi : Int) (w : World) :
    Calls Try.prog 47 #[.agg #[.int .i64 a, .int .i64 b], .int .i64 lo, .int .i64 hi] w fun e w' => e = .returned (.bool (endB (a, b) lo hi)) ∧ Below w.heap.size w w' := by
  have hx := ext_alloc w (.cells #[.int .i64 a, .int .i64 b] 51)
  unfold endB
  simp only
  generalize hres : decide (lo ≤ a ∧ a ≤ b ∧ b ≤ hi) = res
  have Hres := Lib.hid hres
  clear hres
  by_cases h : lo ≤ a
  · by_cases h2 : a ≤ b
    · have Hr := Lib.hid (show decide (b ≤ hi) = res by rw [← Hres.out]; simp [h, h2])
      go_enter Try.func47, Try.ntmps47
      go_wp2
      go_ret
      exact ⟨ret_congr (bool_congr Hr.out), hx⟩
    · have Hr := Lib.hid (show false = res by rw [← Hres.out]; simp [h2])
      go_enter Try.func47, Try.ntmps47
      go_wp2
      go_ret
      exact ⟨ret_congr (bool_congr Hr.out), hx⟩
  · have Hr := Lib.hid (show false = res by rw [← Hres.out]; simp [h])
    go_enter Try.func47, Try.ntmps47
    go_wp2
    go_ret
    exact ⟨ret_congr (bool_congr Hr.out), hx⟩
/-- are the numbers of all stops near? -/
def nearB (x : StE) : Bool := btwE x.fst (-1000000000) 1000000000 && btwE x.lst (-1000000000) 1000000000
set_option maxHeartbeats 1000000 in
theorem Near_any (A : Option Addr) (n c : Nat) (l : List StE) (w : World) (hn : l.length = n) (hm : n ≤ 9223372036854775807) (hd : Cells w A 3 StE.enc l) :
    Calls Try.prog 7 #[.slice A n c] w (Soft (∀ x ∈ l, -1000000000 ≤ x.fst ∧ x.fst ≤ 1000000000 ∧ -1000000000 ≤ x.lst ∧ x.lst ≤ 1000000000) w) := by
  have Hn := Lib.hid hn
  clear hn
  go_enter Try.func7, Try.ntmps7
  go_wp2
  go_loopw [3] (fun t wr => ∃ k : Nat, t = .int .i64 k ∧ k ≤ n ∧ Hid (∀ x ∈ l.take k, -1000000000 ≤ x.fst ∧ x.fst ≤ 1000000000 ∧ -1000000000 ≤ x.lst ∧ x.lst ≤ 1000000000) ∧ w = wr) (fun t _ => n - (intOf t).toNat)
  case atStart => exact ⟨0, rfl, by omega, Lib.hid (by simp), rfl⟩
  case round =>
    obtain ⟨k, rfl, hk, Hk, rfl⟩ := hrel
    by_cases hlt : k < n
    · have hk1 : k < l.length := by rw [Hn.out]; exact hlt
      obtain ⟨b, off, rfl, -, c0, c1, c2⟩ := hd.at3 hk1 rfl
      have Hs := Lib.hid (List.take_succ_eq_append_getElem hk1)
      have C1 := Lib.hid (In_any l[k].fst (-1000000000) 1000000000 w)
      have C2 := Lib.hid (In_any l[k].lst (-1000000000) 1000000000 w)
      have hz : (0 : Int) ≤ k := by omega
      have Hb1 := Lib.hid (show btwE l[k].fst (-1000000000) 1000000000 = true → -1000000000 ≤ l[k].fst ∧ l[k].fst ≤ 1000000000 from fun h => of_decide_eq_true h)
      have Hb2 := Lib.hid (show btwE l[k].lst (-1000000000) 1000000000 = true → -1000000000 ≤ l[k].lst ∧ l[k].lst ≤ 1000000000 from fun h => of_decide_eq_true h)
      generalize btwE l[k].fst (-1000000000) 1000000000 = q1 at *
      generalize btwE l[k].lst (-1000000000) 1000000000 = q2 at *
      generalize l[k] = x at *
      obtain ⟨xt, xf, xl⟩ := x
      simp only at c0 c1 c2 C1 C2
      go_wp2_with fail
      refine C1.out.mono ?_; rintro e w1 ⟨rfl, rfl⟩
      cases q1
      · go_wp2
        go_ret
        exact Soft.no (Below.refl _ _)
      · go_wp2_with fail
        refine C2.out.mono ?_; rintro e w1 ⟨rfl, rfl⟩
        cases q2
        · go_wp2
          go_ret
          exact Soft.no (Below.refl _ _)
        · go_wp2
          go_roundw
          case rel => exact ⟨k + 1, by go_num, by omega, Lib.hid (fun y hy => by
            rw [Hs.out] at hy
            rcases List.mem_append.1 hy with hy | hy
            · exact Hk.out y hy
            · rw [List.mem_singleton.1 hy]
              have h1 := Hb1.out (by trivial)
              have h2 := Hb2.out (by trivial)
              exact ⟨h1.1, h1.2, h2.1, h2.2⟩), by trivial⟩
          case measure => simp [intOf]; omega
    · have Hf := Lib.hid (show ∀ x ∈ l, -1000000000 ≤ x.fst ∧ x.fst ≤ 1000000000 ∧ -1000000000 ≤ x.lst ∧ x.lst ≤ 1000000000 by
        have h2 := Hk.out
        rw [List.take_of_length_le (by rw [Hn.out]; omega)] at h2
        exact h2)
      clear Hk
      go_wp2
      go_ret
      exact Soft.yes (Below.refl _ _) Hf.out
end Go.Proofs.Ytilkoooahoecfaa.Er

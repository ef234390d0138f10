/- Walk: small words on ledgers: sizes, totals, what is missing. -/
import Derived.Test.YtnjdlhhgnamigaaGreatLedQ
import Derived.Test.YtnjdlhhgnamigaaGreatLedE
namespace Go.Pu
open Go.Pl
/-- a ledger whose lists are of any length -/
structure LedL (l : Led) (n m q : Nat) : Prop where
  hn : l.windows.length = n
  hm : l.bags.length = m
  hq : l.diffs.length = q
def Led.misB (l : Led) (w : Int) (d : Dif) : Bool := (l.bags.getD d.bag.toNat default).window == w
def Led.misK (l : Led) (w : Int) (k : Nat) : Int × Int := (isum (((l.diffs.take k).filter (l.misB w)).map Dif.less), (((l.diffs.take k).filter (l.misB w)).length : Int))
theorem Led.misK_hit (l : Led) (w : Int) {k : Nat} (hk : k < l.diffs.length) (h : l.misB w l.diffs[k] = true) : l.misK w (k + 1) = ((l.misK w k).1 + l.diffs[k].less, (l.misK w k).2 + 1) := by
  unfold Led.misK
  rw [List.take_succ_eq_append_getElem hk, List.filter_append, List.map_append, isum_append, List.length_append]
  simp [h, isum]
theorem Led.misK_miss (l : Led) (w : Int) {k : Nat} (hk : k < l.diffs.length) (h : l.misB w l.diffs[k] = false) : l.misK w (k + 1) = l.misK w k := by
  unfold Led.misK
  rw [List.take_succ_eq_append_getElem hk, List.filter_append]
  simp [h]
theorem Led.misK_all (l : Led) (w : Int) : l.misK w l.diffs.length = l.missing w := by
  unfold Led.misK Led.missing
  rw [List.take_of_length_le (Nat.le_refl _)]
  rfl
theorem ok_dif {l : Led} (h : l.okB = true) : ∀ d ∈ l.diffs, (0 ≤ d.bag ∧ d.bag ≤ (l.bags.length : Int) - 1) ∧ -1000000000000 ≤ d.less ∧ d.less ≤ 1000000000000 := by
  intro d hd
  unfold Led.okB at h
  simp only [Bool.and_eq_true, List.all_eq_true] at h
  have h1 := h.2.2.2.2.1 d hd
  unfold Led.difB at h1
  simp only [Bool.and_eq_true, decide_eq_true_eq] at h1
  exact ⟨h1.1, h1.2.2.1⟩
theorem Led.misK_bd {l : Led} (h : l.okB = true) (w : Int) : ∀ k, k ≤ l.diffs.length → (-(k * 1000000000000 : Int) ≤ (l.misK w k).1 ∧ (l.misK w k).1 ≤ k * 1000000000000) ∧ 0 ≤ (l.misK w k).2 ∧ (l.misK w k).2 ≤ k
  | 0, _ => by simp [Led.misK, isum]
  | k + 1, hk => by
    have h1 := Led.misK_bd h w k (by omega)
    have h2 := (ok_dif h l.diffs[k] (List.getElem_mem _)).2
    have e : ((k + 1 : Nat) : Int) * 1000000000000 = (k : Int) * 1000000000000 + 1000000000000 := by omega
    rw [e]
    cases hb : l.misB w l.diffs[k]
    · rw [l.misK_miss w (by omega) hb]; omega
    · rw [l.misK_hit w (by omega) hb]; simp only; omega
end Go.Pu
namespace Go.Proofs.YtnjdlhhgnamigaaGreat
open Go.RowKit Go.Bs Go.Pu Go.Pl Go.Sort

theorem small_any (l : Led) (A : Option Addr) (n c : Nat) (B : Option Addr) (m d : Nat) (D : Option Addr) (q e : Nat) (w : World) :
    Calls Tryz.prog 5 #[ledV A n c B m d l.office l.bank l.begun l.inn l.out D q e] w fun r w' => r = .returned (.bool (decide (n ≤ 15) && (decide (m ≤ 105) && decide (q ≤ 105)))) ∧ Below w.heap.size w w' := by
  have hb0 := ext_alloc w (.cells #[.slice A n c, .slice B m d, .int .i64 l.office, .int .i64 l.bank, .int .i64 l.begun, .int .i64 l.inn, .int .i64 l.out, .slice D q e] 26)
  have hX := Blk.new w 26 [.slice A n c, .slice B m d, .int .i64 l.office, .int .i64 l.bank, .int .i64 l.begun, .int .i64 l.inn, .int .i64 l.out, .slice D q e]
  unfold ledV
  by_cases h1 : n ≤ 15
  · have h1' : (n : Int) ≤ 15 := by omega
    by_cases h2 : m ≤ 105
    · have h2' : (m : Int) ≤ 105 := by omega
      by_cases h3 : q ≤ 105
      · have h3' : (q : Int) ≤ 105 := by omega
        rw [decide_eq_true h1, decide_eq_true h2, decide_eq_true h3]
        go_enter Tryz.func5, Tryz.ntmps5
        go_wp2
        go_ret
        exact ⟨rfl, hb0⟩
      · have h3' : ¬ (q : Int) ≤ 105 := by omega
        rw [decide_eq_true h1, decide_eq_true h2, decide_eq_false h3]
        go_enter Tryz.func5, Tryz.ntmps5
        go_wp2
        go_ret
        exact ⟨rfl, hb0⟩
    · have h2' : ¬ (m : Int) ≤ 105 := by omega
      rw [decide_eq_true h1, decide_eq_false h2]
      go_enter Tryz.func5, Tryz.ntmps5
      go_wp2
      go_ret
      exact ⟨rfl, hb0⟩
  · have h1' : ¬ (n : Int) ≤ 15 := by omega
    rw [decide_eq_false h1]
    go_enter Tryz.func5, Tryz.ntmps5
    go_wp2
    go_ret
    exact ⟨rfl, hb0⟩
set_option maxRecDepth 100000 in
set_option maxHeartbeats 1000000 in
theorem TotalR_any (l : Led) (A : Option Addr) (n c : Nat) (B : Option Addr) (m d : Nat) (D : Option Addr) (q e : Nat) (w : World) (hL : LedM w l A n B m D q) (hk : l.mon) :
    Calls Tryz.prog 33 #[ledV A n c B m d l.office l.bank l.begun l.inn l.out D q e] w fun r w' => r = .returned (.int .i64 l.total) ∧ Below w.heap.size w w' := by
  have hb0 := ext_alloc w (.cells #[.slice A n c, .slice B m d, .int .i64 l.office, .int .i64 l.bank, .int .i64 l.begun, .int .i64 l.inn, .int .i64 l.out, .slice D q e] 26)
  have hX := Blk.new w 26 [.slice A n c, .slice B m d, .int .i64 l.office, .int .i64 l.bank, .int .i64 l.begun, .int .i64 l.inn, .int .i64 l.out, .slice D q e]
  unfold ledV
  have hL0 := hL.ext hb0
  have ho := hk.o
  have hkk := hk.k
  have Hw := Lib.hid hk.w
  have Hh := Lib.hid hk.h
  have hn9 := hL.n9
  have hm9 := hL.m9
  have Hn := Lib.hid hL.hn
  have Hm := Lib.hid hL.hm
  have hA0 := hL0.a
  have hB0 := hL0.b
  have Ht := Lib.hid (show l.total = l.office + l.bank + isum l.windows + isum (l.bags.map Bag.holds) from rfl)
  clear hL hL0 hk
  generalize l.total = tot at *
  go_enter Tryz.func33, Tryz.ntmps33
  go_upto_region 1 with fail
  change Blk (w.alloc (.cells #[.slice A n c, .slice B m d, .int .i64 l.office, .int .i64 l.bank, .int .i64 l.begun, .int .i64 l.inn, .int .i64 l.out, .slice D q e] 26)) _ _ _ at hX
  generalize w.alloc (.cells #[.slice A n c, .slice B m d, .int .i64 l.office, .int .i64 l.bank, .int .i64 l.begun, .int .i64 l.inn, .int .i64 l.out, .slice D q e] 26) = W0 at *
  have x2 : W0.cell? ⟨w.heap.size, 2, none⟩ = _ := hX.cell (i := 2) rfl
  have x3 : W0.cell? ⟨w.heap.size, 3, none⟩ = _ := hX.cell (i := 3) rfl
  go_wp2
  clear x2 x3
  go_loopw [3, 4] (fun s x wr => ∃ (k : Nat) (S : Int), x = .int .i64 k ∧ s = .int .i64 S ∧ k ≤ n ∧ (0 ≤ S ∧ S ≤ 2000000000000 + k * 1000000000000) ∧ Hid (S = l.office + l.bank + isum (l.windows.take k)) ∧ W0 = wr) (fun _ x _ => n - (intOf x).toNat)
  case atStart => exact ⟨0, _, rfl, rfl, by omega, by omega, Lib.hid (by simp [isum]), rfl⟩
  case round =>
    obtain ⟨k, S, rfl, rfl, hkn, hS, HS, rfl⟩ := hrel
    have x0 : W0.cell? ⟨w.heap.size, 0, none⟩ = _ := hX.cell (i := 0) rfl
    by_cases hlt : k < n
    · have hlt' : (k : Int) < n := by omega
      have hk1 : k < l.windows.length := by rw [Hn.out]; exact hlt
      obtain ⟨b, off, rfl, -, c0⟩ := hA0.at1 hk1 rfl
      have h2 := Hw.out l.windows[k] (List.getElem_mem _)
      have Hs := Lib.hid (show l.office + l.bank + isum (l.windows.take (k + 1)) = S + l.windows[k] by rw [List.take_succ_eq_append_getElem hk1, isum_append, HS.out]; simp [isum]; omega)
      generalize l.windows[k] = x at *
      go_wp2
      go_roundw
      case rel => exact ⟨k + 1, _, by go_num, rfl, by omega, by rw [show ((k + 1 : Nat) : Int) * 1000000000000 = (k : Int) * 1000000000000 + 1000000000000 by omega]; omega, Lib.hid Hs.out.symm, trivial⟩
      case measure => simp [intOf]; omega
    · obtain rfl : k = n := by omega
      rw [List.take_of_length_le (by rw [Hn.out]; omega)] at HS
      go_wp2
      clear x0
      go_loopw [3, 5] (fun s x wr => ∃ (j : Nat) (T : Int), x = .int .i64 j ∧ s = .int .i64 T ∧ j ≤ m ∧ (0 ≤ T ∧ T ≤ 2000000000000 + k * 1000000000000 + j * 1000000000000) ∧ Hid (T = S + isum ((l.bags.take j).map Bag.holds)) ∧ W0 = wr) (fun _ x _ => m - (intOf x).toNat)
      case atStart => exact ⟨0, _, rfl, rfl, by omega, by omega, Lib.hid (by simp [isum]), rfl⟩
      case round =>
        obtain ⟨j, T, rfl, rfl, hjm, hT, HT, rfl⟩ := hrel
        have x1 : W0.cell? ⟨w.heap.size, 1, none⟩ = _ := hX.cell (i := 1) rfl
        by_cases hlt : j < m
        · have hlt' : (j : Int) < m := by omega
          have hk1 : j < l.bags.length := by rw [Hm.out]; exact hlt
          obtain ⟨b, off, rfl, -, -, -, -, c3, -, -⟩ := hB0.at6 hk1 rfl
          have h2 := (Hh.out l.bags[j] (List.getElem_mem _)).1
          have Hs := Lib.hid (show S + isum ((l.bags.take (j + 1)).map Bag.holds) = T + (l.bags[j]).holds by rw [List.take_succ_eq_append_getElem hk1, List.map_append, isum_append, HT.out]; simp [isum]; omega)
          generalize (l.bags[j]).holds = x at *
          go_wp2
          go_roundw
          case rel => exact ⟨j + 1, _, by go_num, rfl, by omega, by rw [show ((j + 1 : Nat) : Int) * 1000000000000 = (j : Int) * 1000000000000 + 1000000000000 by omega]; omega, Lib.hid Hs.out.symm, trivial⟩
          case measure => simp [intOf]; omega
        · obtain rfl : j = m := by omega
          rw [List.take_of_length_le (by rw [Hm.out]; omega)] at HT
          go_wp2
          go_ret
          exact ⟨ret_congr (int_congr (by rw [HT.out, HS.out, Ht.out])), hb0⟩
end Go.Proofs.YtnjdlhhgnamigaaGreat

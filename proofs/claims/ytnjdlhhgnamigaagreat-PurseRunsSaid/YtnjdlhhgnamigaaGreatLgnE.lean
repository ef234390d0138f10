/- Walk: the reference's words on bags. -/
import Derived.Test.YtnjdlhhgnamigaaGreatLgnD
namespace Go.Pu
theorem any_hit {p : Nat → Bool} {m k : Nat} (hk : k < m) (h : p k = true) : (List.range m).any p = true := List.any_eq_true.2 ⟨k, by simpa using hk, h⟩
theorem any_none {p : Nat → Bool} {m : Nat} (h : ∀ k, k < m → p k = false) : (List.range m).any p = false := by
  rw [List.any_eq_false]
  intro k hk
  rw [h k (by simpa using hk)]
  simp
theorem all_bad {p : Nat → Bool} {m k : Nat} (hk : k < m) (h : p k = false) : (List.range m).all p = false := by
  rw [List.all_eq_false]
  exact ⟨k, by simpa using hk, by rw [h]; simp⟩
theorem all_good {p : Nat → Bool} {m : Nat} (h : ∀ k, k < m → p k = true) : (List.range m).all p = true := by
  rw [List.all_eq_true]
  intro k hk
  exact h k (by simpa using hk)
end Go.Pu
namespace Go.Proofs.YtnjdlhhgnamigaaGreat
open Go.RowKit Go.Bs Go.Pu Go.Pl Go.Sort
set_option maxRecDepth 100000 in
set_option maxHeartbeats 1000000 in
theorem sealedR_any (l : Led) (A : Option Addr) (n c : Nat) (B : Option Addr) (m d : Nat) (D : Option Addr) (q e : Nat) (s but : Int) (w : World) (hL : LedM w l A n B m D q) :
    Calls Tryz.prog 57 #[ledV A n c B m d l.office l.bank l.begun l.inn l.out D q e, .int .i64 s, .int .i64 but] w fun r w' => r = .returned (.bool (l.sealed s but)) ∧ Below w.heap.size w w' := by
  have hb0 := ext_alloc w (.cells #[.slice A n c, .slice B m d, .int .i64 l.office, .int .i64 l.bank, .int .i64 l.begun, .int .i64 l.inn, .int .i64 l.out, .slice D q e] 26)
  have hX := Blk.new w 26 [.slice A n c, .slice B m d, .int .i64 l.office, .int .i64 l.bank, .int .i64 l.begun, .int .i64 l.inn, .int .i64 l.out, .slice D q e]
  have hM := hL.ext hb0
  have hs : l.sealed s but = (List.range m).any (fun i => decide ((i : Int) ≠ but) && (l.bags.getD i default).has s) := by unfold Led.sealed; rw [hL.hm]
  have Hhit := Lib.hid (fun k (hk : k < m) (h : (decide ((k : Int) ≠ but) && (l.bags.getD k default).has s) = true) => hs.trans (any_hit (p := fun i : Nat => decide ((i : Int) ≠ but) && (l.bags.getD i default).has s) hk h))
  have Hnone := Lib.hid (fun (h : ∀ k, k < m → (decide ((k : Int) ≠ but) && (l.bags.getD k default).has s) = false) => hs.trans (any_none (p := fun i : Nat => decide ((i : Int) ≠ but) && (l.bags.getD i default).has s) h))
  have Hm := Lib.hid hM.hm
  have hm9 := hM.m9
  have hB := hM.b
  unfold ledV
  clear hL hM hs
  generalize l.sealed s but = res at *
  go_enter Tryz.func57, Tryz.ntmps57
  go_upto_region 1 with fail
  change Blk (w.alloc (.cells #[.slice A n c, .slice B m d, .int .i64 l.office, .int .i64 l.bank, .int .i64 l.begun, .int .i64 l.inn, .int .i64 l.out, .slice D q e] 26)) _ _ _ at hX
  generalize w.alloc (.cells #[.slice A n c, .slice B m d, .int .i64 l.office, .int .i64 l.bank, .int .i64 l.begun, .int .i64 l.inn, .int .i64 l.out, .slice D q e] 26) = W0 at *
  go_wp2
  go_loopw [7] (fun x wr => ∃ k : Nat, x = .int .i64 k ∧ k ≤ m ∧ Hid (∀ j, j < k → (decide ((j : Int) ≠ but) && (l.bags.getD j default).has s) = false) ∧ W0 = wr) (fun x _ => m - (intOf x).toNat)
  case atStart => exact ⟨0, rfl, by omega, Lib.hid (fun j h => by omega), rfl⟩
  case round =>
    obtain ⟨k, rfl, hk, Hk, rfl⟩ := hrel
    have x1 : W0.cell? ⟨w.heap.size, 1, none⟩ = _ := hX.cell (i := 1) rfl
    by_cases hlt : k < m
    · have hlt' : (k : Int) < m := by omega
      have hk1 : k < l.bags.length := by rw [Hm.out]; exact hlt
      have hgd : l.bags.getD k default = l.bags[k] := by simp [hk1]
      have Hyes := Lib.hid (Hhit.out k hlt)
      have Hno := Lib.hid (fun (h : (decide ((k : Int) ≠ but) && (l.bags.getD k default).has s) = false) j (hj : j < k + 1) => if e : j < k then Hk.out j e else (show j = k by omega) ▸ h)
      obtain ⟨o, p, rfl, -, -, c1, -, -, c4, -⟩ := hB.at6 hk1 rfl
      have hp : (decide ((k : Int) ≠ but) && (l.bags.getD k default).has s) = (decide ((k : Int) ≠ but) && ((l.bags[k]).sl == s || (l.bags[k]).now == s)) := by rw [hgd]; rfl
      have Hp := Lib.hid hp
      clear hgd hp
      generalize (l.bags[k]).sl = a1 at *
      generalize (l.bags[k]).now = a4 at *
      by_cases hb : (k : Int) = but
      · have e0 : ((k : Int) != but) = false := by simp [hb]
        have HN := Lib.hid (Hno.out (by rw [Hp.out, decide_eq_false (fun h => h hb), Bool.false_and]))
        clear hb
        go_wp2
        go_roundw
        case rel => exact ⟨k + 1, by go_num, by omega, HN, trivial⟩
        case measure => simp [intOf]; omega
      · have e0 : ((k : Int) != but) = true := by simpa using hb
        have Hb := Lib.hid hb
        clear hb
        by_cases h1 : a1 = s
        · have e1 : (a1 == s) = true := by simpa using h1
          have HY := Lib.hid (show true = res from (Hyes.out (by rw [Hp.out, decide_eq_true Hb.out, e1]; rfl)).symm)
          clear h1
          go_wp2
          go_ret
          exact ⟨ret_congr (bool_congr HY.out), hb0⟩
        · have e1 : (a1 == s) = false := by simpa using h1
          clear h1
          by_cases h4 : a4 = s
          · have e4 : (a4 == s) = true := by simpa using h4
            have HY := Lib.hid (show true = res from (Hyes.out (by rw [Hp.out, decide_eq_true Hb.out, e1, e4]; rfl)).symm)
            clear h4
            go_wp2
            go_ret
            exact ⟨ret_congr (bool_congr HY.out), hb0⟩
          · have e4 : (a4 == s) = false := by simpa using h4
            have HN := Lib.hid (Hno.out (by rw [Hp.out, e1, e4]; simp))
            clear h4
            go_wp2
            go_roundw
            case rel => exact ⟨k + 1, by go_num, by omega, HN, trivial⟩
            case measure => simp [intOf]; omega
    · obtain rfl : k = m := by omega
      have HY := Lib.hid (Hnone.out Hk.out).symm
      go_wp2
      go_ret
      exact ⟨ret_congr (bool_congr HY.out), hb0⟩
set_option maxRecDepth 100000 in
set_option maxHeartbeats 1000000 in
theorem namedR_any (l : Led) (A : Option Addr) (n c : Nat) (B : Option Addr) (m d : Nat) (D : Option Addr) (q e : Nat) (i : Int) (w : World) (hL : LedM w l A n B m D q) :
    Calls Tryz.prog 58 #[ledV A n c B m d l.office l.bank l.begun l.inn l.out D q e, .int .i64 i] w fun r w' => r = .returned (.bool (l.found i)) ∧ Below w.heap.size w w' := by
  have hb0 := ext_alloc w (.cells #[.slice A n c, .slice B m d, .int .i64 l.office, .int .i64 l.bank, .int .i64 l.begun, .int .i64 l.inn, .int .i64 l.out, .slice D q e] 26)
  have hX := Blk.new w 26 [.slice A n c, .slice B m d, .int .i64 l.office, .int .i64 l.bank, .int .i64 l.begun, .int .i64 l.inn, .int .i64 l.out, .slice D q e]
  have hM := hL.ext hb0
  have Hyes := Lib.hid (fun k (hk : k < l.diffs.length) (h : ((l.diffs[k]).bag == i) = true) => (show l.found i = true from List.any_eq_true.2 ⟨_, List.getElem_mem hk, h⟩))
  have Hnone := Lib.hid (fun (h : ∀ k (hk : k < l.diffs.length), ((l.diffs[k]).bag == i) = false) => (show l.found i = false by
    unfold Led.found
    rw [List.any_eq_false]
    intro d hd
    obtain ⟨k, hk, rfl⟩ := List.getElem_of_mem hd
    rw [h k hk]; simp))
  have Hq := Lib.hid hM.hq
  have hq9 := hM.q9
  have hD := hM.d
  unfold ledV
  clear hL hM
  generalize l.found i = res at *
  go_enter Tryz.func58, Tryz.ntmps58
  go_upto_region 1 with fail
  change Blk (w.alloc (.cells #[.slice A n c, .slice B m d, .int .i64 l.office, .int .i64 l.bank, .int .i64 l.begun, .int .i64 l.inn, .int .i64 l.out, .slice D q e] 26)) _ _ _ at hX
  generalize w.alloc (.cells #[.slice A n c, .slice B m d, .int .i64 l.office, .int .i64 l.bank, .int .i64 l.begun, .int .i64 l.inn, .int .i64 l.out, .slice D q e] 26) = W0 at *
  go_wp2
  go_loopw [5] (fun x wr => ∃ k : Nat, x = .int .i64 k ∧ k ≤ q ∧ Hid (∀ j (hj : j < l.diffs.length), j < k → ((l.diffs[j]).bag == i) = false) ∧ W0 = wr) (fun x _ => q - (intOf x).toNat)
  case atStart => exact ⟨0, rfl, by omega, Lib.hid (fun j _ h => by omega), rfl⟩
  case round =>
    obtain ⟨k, rfl, hk, Hk, rfl⟩ := hrel
    have x7 : W0.cell? ⟨w.heap.size, 7, none⟩ = _ := hX.cell (i := 7) rfl
    by_cases hlt : k < q
    · have hlt' : (k : Int) < q := by omega
      have hk1 : k < l.diffs.length := by rw [Hq.out]; exact hlt
      have Hy := Lib.hid (Hyes.out k hk1)
      have Hno := Lib.hid (fun (h : ((l.diffs[k]).bag == i) = false) j (hj : j < l.diffs.length) (hjk : j < k + 1) => if e : j < k then Hk.out j hj e else (show ((l.diffs[j]).bag == i) = false by have e2 : j = k := (by omega); subst e2; exact h))
      obtain ⟨o, p, rfl, -, c0, -, -⟩ := hD.at3 hk1 rfl
      generalize (l.diffs[k]).bag = db at *
      by_cases hd : db = i
      · have e0 : (db == i) = true := by simpa using hd
        have HY := Lib.hid (show true = res from (Hy.out e0).symm)
        clear hd
        go_wp2
        go_ret
        exact ⟨ret_congr (bool_congr HY.out), hb0⟩
      · have e0 : (db == i) = false := by simpa using hd
        have HN := Lib.hid (Hno.out e0)
        clear hd
        go_wp2
        go_roundw
        case rel => exact ⟨k + 1, by go_num, by omega, HN, trivial⟩
        case measure => simp [intOf]; omega
    · obtain rfl : k = q := by omega
      have HY := Lib.hid (Hnone.out (fun j hj => Hk.out j hj (by rw [← Hq.out]; exact hj))).symm
      go_wp2
      go_ret
      exact ⟨ret_congr (bool_congr HY.out), hb0⟩
end Go.Proofs.YtnjdlhhgnamigaaGreat

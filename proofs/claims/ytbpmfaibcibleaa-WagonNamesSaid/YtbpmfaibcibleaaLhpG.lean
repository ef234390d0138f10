/- Walk: Masses. (Printed by mk_lhpg.py.) -/
import Derived.Test.YtbpmfaibcibleaaLhpA
namespace Go.Proofs.Ytbpmfaibcibleaa
open Go.RowKit Go.Bs Go.Wg Go.Pl Go.Sort
theorem massL_succ {ts : List Th} {l : List Int} {k : Nat} (hk : k < l.length) : massL ts (l.take (k + 1)) = massL ts (l.take k) + (thAt ts l[k]).mass := by
  rw [List.take_succ_eq_append_getElem hk]
  unfold massL
  rw [List.map_append, isum_append]
  simp [isum]
set_option maxHeartbeats 1000000 in
theorem Masses_any (T : Option Addr) (m cT : Nat) (ts : List Th) (A : Option Addr) (n c : Nat) (l : List Int) (w : World) (hm : ts.length = m) (hok : ∀ t ∈ ts, t.Ok) (ht : Cells w T 4 Th.enc ts) (hl : l.length = n) (hn : n ≤ 1000000) (hin : InR m l) (hd : Cells w A 1 Go.Bs.encI l) :
    Calls Try.prog 38 #[.slice T m cT, .slice A n c] w fun e w' => e = .returned (.int .i64 (massL ts l)) ∧ w = w' := by
  have Hm := Lib.hid hm
  have Hok := Lib.hid hok
  have Hl := Lib.hid hl
  have Hin := Lib.hid hin
  generalize hres : massL ts l = res
  have Hres := Lib.hid hres
  clear hres hm hok hl hin
  go_enter Try.func38, Try.ntmps38
  go_wp2
  go_loop [5, 6] (fun s t => ∃ (k : Nat) (x : Int), s = .int .i64 x ∧ t = .int .i64 k ∧ k ≤ n ∧ 0 ≤ x ∧ x ≤ k * 100000 ∧ Hid (x = massL ts (l.take k))) (fun _ t => n - (intOf t).toNat)
  case atStart => exact ⟨0, 0, rfl, rfl, by omega, by omega, by omega, Lib.hid rfl⟩
  case round =>
    obtain ⟨k, x, rfl, rfl, hk, hx0, hx1, Hx⟩ := hrel
    by_cases hlt : k < n
    · have hlt' : (k : Int) < n := by omega
      have hkl : k < l.length := by rw [Hl.out]; exact hlt
      obtain ⟨b, off, rfl, -, d0⟩ := hd.at1 hkl rfl
      have hr := Hin.out _ (List.getElem_mem hkl)
      obtain ⟨j, hj⟩ : ∃ j : Nat, l[k] = j := ⟨l[k].toNat, by omega⟩
      have hjm : j < m := by omega
      have hjt : j < ts.length := by rw [Hm.out]; exact hjm
      obtain ⟨b2, off2, rfl, -, -, -, d2, -⟩ := ht.at4 hjt rfl
      have hb := (Hok.out _ (List.getElem_mem hjt)).mass
      have Hs := Lib.hid (show x + ts[j].mass = massL ts (l.take (k + 1)) by rw [massL_succ hkl, ← Hx.out, hj, thAt_eq hjt])
      rw [hj] at d0
      clear hr hj
      generalize ts[j].mass = y at *
      have hj' : (j : Int) < (m : Int) := by omega
      go_wp2
      go_round
      case rel => exact ⟨k + 1, x + y, by go_num, by go_num, by omega, by omega, by omega, Hs⟩
      case measure => simp [intOf]; omega
    · obtain rfl : k = n := by omega
      have Hr := Lib.hid (show x = res by
        rw [← Hres.out, Hx.out, List.take_of_length_le (by rw [Hl.out]; omega)])
      go_wp2
      go_ret
      exact ⟨by rw [← Hr.out]; rfl, rfl⟩
theorem highL_succ {ts : List Th} {l : List Int} {k : Nat} (hk : k < l.length) : highL ts (l.take (k + 1)) = max (highL ts (l.take k)) (thAt ts l[k]).high := by
  rw [List.take_succ_eq_append_getElem hk, highL_snoc]
set_option maxHeartbeats 1000000 in
theorem Highest_any (T : Option Addr) (m cT : Nat) (ts : List Th) (A : Option Addr) (n c : Nat) (l : List Int) (w : World) (hm : ts.length = m) (ht : Cells w T 4 Th.enc ts) (hl : l.length = n) (hn : n ≤ 1000000) (hin : InR m l) (hd : Cells w A 1 Go.Bs.encI l) :
    Calls Try.prog 49 #[.slice T m cT, .slice A n c] w fun e w' => e = .returned (.int .i64 (highL ts l)) ∧ w = w' := by
  have Hm := Lib.hid hm
  have Hl := Lib.hid hl
  have Hin := Lib.hid hin
  generalize hres : highL ts l = res
  have Hres := Lib.hid hres
  clear hres hm hl hin
  go_enter Try.func49, Try.ntmps49
  go_wp2
  go_loop [5, 6] (fun s t => ∃ (k : Nat) (x : Int), s = .int .i64 x ∧ t = .int .i64 k ∧ k ≤ n ∧ Hid (x = highL ts (l.take k))) (fun _ t => n - (intOf t).toNat)
  case atStart => exact ⟨0, 0, rfl, rfl, by omega, Lib.hid rfl⟩
  case round =>
    obtain ⟨k, x, rfl, rfl, hk, Hx⟩ := hrel
    by_cases hlt : k < n
    · have hlt' : (k : Int) < n := by omega
      have hkl : k < l.length := by rw [Hl.out]; exact hlt
      obtain ⟨b, off, rfl, -, d0⟩ := hd.at1 hkl rfl
      have hr := Hin.out _ (List.getElem_mem hkl)
      obtain ⟨j, hj⟩ : ∃ j : Nat, l[k] = j := ⟨l[k].toNat, by omega⟩
      have hjm : j < m := by omega
      have hjt : j < ts.length := by rw [Hm.out]; exact hjm
      obtain ⟨b2, off2, rfl, -, -, d1, -, -⟩ := ht.at4 hjt rfl
      have Hs := Lib.hid (show max x ts[j].high = highL ts (l.take (k + 1)) by rw [highL_succ hkl, ← Hx.out, hj, thAt_eq hjt])
      rw [hj] at d0
      clear hr hj
      generalize ts[j].high = y at *
      have hj' : (j : Int) < (m : Int) := by omega
      by_cases hxy : y ≤ x
      · have hmx : max x y = x := Int.max_eq_left hxy
        have Hs2 := Lib.hid (show x = highL ts (l.take (k + 1)) by rw [← Hs.out, hmx])
        go_wp2
        go_round
        case rel => exact ⟨k + 1, x, by first | rfl | go_num, by go_num, by omega, Hs2⟩
        case measure => simp [intOf]; omega
      · have hmx : max x y = y := Int.max_eq_right (by omega)
        have Hs2 := Lib.hid (show y = highL ts (l.take (k + 1)) by rw [← Hs.out, hmx])
        go_wp2
        go_round
        case rel => exact ⟨k + 1, y, by first | rfl | go_num, by go_num, by omega, Hs2⟩
        case measure => simp [intOf]; omega
    · obtain rfl : k = n := by omega
      have Hr := Lib.hid (show x = res by
        rw [← Hres.out, Hx.out, List.take_of_length_le (by rw [Hl.out]; omega)])
      go_wp2
      go_ret
      exact ⟨by rw [← Hr.out]; rfl, rfl⟩
end Go.Proofs.Ytbpmfaibcibleaa

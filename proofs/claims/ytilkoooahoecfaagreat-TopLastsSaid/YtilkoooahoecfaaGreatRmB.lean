/- Walks: rigging: a rig of one point, no beams, no loads is valid. (Printed by mk_rmb.py.) -/
import Derived.Test.YtilkoooahoecfaaGreatUntA
import Derived.Test.YtilkoooahoecfaaGreatRmA
namespace Go.Proofs.YtilkoooahoecfaaGreat.Rg
open Go.RowKit Go.Bs Go.Pl Go.Sort Go.Rg
set_option maxHeartbeats 800000 in
theorem index_rint (g : Nat) (lb : Array Value) (p : (Int) → Bool) (A : Option Addr) (n cap : Nat) (l : List (Int)) (w : World) (eg : Enters Tryz.prog g) (hn : l.length = n) (hm : n ≤ 9223372036854775807) (hd : Cells w A 1 encI l)
    (hp : PredB Tryz.prog g lb (Value.int .i64) p w l) :
    Calls Tryz.prog 84 #[.slice A n cap, .func (.func g) #[] lb] w fun e w' => e = .returned (.int .i64 (idxF p l)) ∧ Below w.heap.size w w' := by
  have Hn := Lib.hid hn
  clear hn
  generalize hres : idxF p l = res
  have Hres := Lib.hid hres
  clear hres
  unfold Enters at eg
  go_enter Tryz.func84, Tryz.ntmps84
  go_wp2
  go_loopw [5, 8] (fun _ t wr => ∃ (k : Nat), k ≤ n ∧ t = .int .i64 k ∧ Hid (∀ x ∈ l.take k, p x = false) ∧ Below w.heap.size w wr) (fun _ t _ => n - (intOf t).toNat)
  case atStart => exact ⟨0, by omega, rfl, Lib.hid (by simp), Below.refl _ _⟩
  case round =>
    obtain ⟨k, hk, rfl, Hk, hb⟩ := hrel
    by_cases hlt : k < n
    · have hk1 : k < l.length := by rw [Hn.out]; exact hlt
      obtain ⟨b, off, rfl, hbl, c0⟩ := (hd.ext hb).at1 hk1 rfl
      have hc := hp wr l[k] (List.getElem_mem _) hb
      have hz : (0 : Int) ≤ k := by omega
      cases hq : p l[k]
      · rw [hq] at hc
        have Hq := Lib.hid hq
        have Hc := Lib.hid hc
        clear hc hq hp
        go_wp2_with fail
        refine Hc.out.mono ?_; rintro e w1 ⟨rfl, hb1⟩
        go_wp2
        go_roundw
        case rel => exact ⟨k + 1, by omega, by go_num, Lib.hid (fun x hx => by
          rw [List.take_succ_eq_append_getElem hk1] at hx
          rcases List.mem_append.1 hx with hx | hx
          · exact Hk.out x hx
          · simp at hx; rw [hx]; exact Hq.out), ext_trans hb hb1⟩
        case measure => simp [intOf]; omega
      · rw [hq] at hc
        have Hq := Lib.hid hq
        have Hc := Lib.hid hc
        clear hc hq hp
        go_wp2_with fail
        refine Hc.out.mono ?_; rintro e w1 ⟨rfl, hb1⟩
        go_wp2
        go_ret
        exact ⟨ret_congr (int_congr (by rw [← Hres.out, idxF_hit hk1 Hq.out Hk.out])), ext_trans hb hb1⟩
    · go_wp2
      go_ret
      exact ⟨ret_congr (int_congr (by rw [← Hres.out, idxF_miss (fun x hx => Hk.out x (by rw [List.take_of_length_le (by rw [Hn.out]; omega)]; exact hx))])), hb⟩

theorem contains_rint (g : Nat) (lb : Array Value) (p : (Int) → Bool) (A : Option Addr) (n cap : Nat) (l : List (Int)) (w : World) (eg : Enters Tryz.prog g) (hn : l.length = n) (hm : n ≤ 9223372036854775807) (hd : Cells w A 1 encI l)
    (hp : PredB Tryz.prog g lb (Value.int .i64) p w l) :
    Calls Tryz.prog 59 #[.slice A n cap, .func (.func g) #[] lb] w fun e w' => e = .returned (.bool (l.any p)) ∧ Below w.heap.size w w' := by
  have hc := index_rint g lb p A n cap l w eg hn hm hd hp
  rw [← idxF_nonneg]
  generalize idxF p l = x at *
  have Hc := Lib.hid hc
  clear hc hp hn hd eg
  go_enter Tryz.func59, Tryz.ntmps59
  go_wp2_with fail
  refine Hc.out.mono ?_; rintro e w1 ⟨rfl, hb1⟩
  go_wp2
  go_ret
  exact ⟨rfl, hb1⟩

theorem not_rint (g : Nat) (lb : Array Value) (p : (Int) → Bool) (l : List (Int)) (w : World) (B : Nat) (eg : Enters Tryz.prog g) (hB : w.cell? ⟨B, 0, none⟩ = some (.func (.func g) #[] lb))
    (hp : PredB Tryz.prog g lb (Value.int .i64) p w l) : PredB Tryz.prog 60 #[.pointer (some ⟨B, 0, none⟩)] (Value.int .i64) (fun x => !p x) w l := by
  intro W x hx hb
  have hB' := cell_ext hB hb
  have hlt := cell_lt hB'
  unfold Enters at eg
  have hc := hp W x hx hb
  show Calls Tryz.prog 60 #[.int .i64 x, .pointer (some ⟨B, 0, none⟩)] W fun e w' => e = .returned (.bool (!p x)) ∧ Below W.heap.size W w'
  generalize p x = q at *
  have Hc := Lib.hid hc
  clear hc hp hB
  go_enter Tryz.func60, Tryz.ntmps60
  go_wp2_with fail
  refine Hc.out.mono ?_; rintro e w1 ⟨rfl, hb1⟩
  go_wp2
  go_ret
  exact ⟨rfl, hb1⟩

theorem all_rint (g : Nat) (lb : Array Value) (p : (Int) → Bool) (A : Option Addr) (n cap : Nat) (l : List (Int)) (w : World) (eg : Enters Tryz.prog g) (hn : l.length = n) (hm : n ≤ 9223372036854775807) (hd : Cells w A 1 encI l)
    (hp : PredB Tryz.prog g lb (Value.int .i64) p w l) :
    Calls Tryz.prog 35 #[.slice A n cap, .func (.func g) #[] lb] w fun e w' => e = .returned (.bool (l.all p)) ∧ Below w.heap.size w w' := by
  have hb0 := ext_alloc w (.cells #[.func (.func g) #[] lb] 81)
  have hc := contains_rint 60 #[.pointer (some ⟨w.heap.size, 0, none⟩)] (fun x => !p x) A n cap l _ (enters_of Tryz.func60 (by kernel_rfl) rfl) hn hm (hd.ext hb0) (not_rint g lb p l _ w.heap.size eg (by simp) (hp.later hb0))
  rw [← any_not]
  generalize (l.any fun x => !p x) = q at *
  have Hc := Lib.hid hc
  clear hc hp hn hd eg hb0
  go_enter Tryz.func35, Tryz.ntmps35
  go_wp2_with fail
  refine Hc.out.mono ?_; rintro e w1 ⟨rfl, hb1⟩
  go_wp2
  go_ret
  exact ⟨rfl, ext_trans (ext_alloc _ _) hb1⟩
theorem force_ok (l : List Int) (w : World) (hl : ∀ x ∈ l, 0 ≤ x ∧ x ≤ 1000000) : PredB Tryz.prog 36 #[] (Value.int .i64) (fun _ => true) w l := by
  intro W x hx hb
  have C := Lib.hid (rwithin_t (hl x hx) W)
  show Calls Tryz.prog 36 #[.int .i64 x] W fun e w' => e = .returned (.bool true) ∧ Below W.heap.size W w'
  go_enter Tryz.func36, Tryz.ntmps36
  go_wp2_with fail
  refine C.out.mono ?_; rintro e w1 ⟨rfl, rfl⟩
  go_wp2
  go_ret
  exact ⟨rfl, Below.refl _ _⟩
theorem factor_ok (l : List Int) (w : World) (hl : ∀ x ∈ l, 1000 ≤ x ∧ x ≤ 20000) : PredB Tryz.prog 39 #[] (Value.int .i64) (fun _ => true) w l := by
  intro W x hx hb
  have C := Lib.hid (rwithin_t (hl x hx) W)
  show Calls Tryz.prog 39 #[.int .i64 x] W fun e w' => e = .returned (.bool true) ∧ Below W.heap.size W w'
  go_enter Tryz.func39, Tryz.ntmps39
  go_wp2_with fail
  refine C.out.mono ?_; rintro e w1 ⟨rfl, rfl⟩
  go_wp2
  go_ret
  exact ⟨rfl, Below.refl _ _⟩
theorem all_true (l : List Int) : (l.all fun _ => true) = true := by simp
theorem loads_none (fv : Value) (w : World) : Calls Tryz.prog 86 #[.slice none 0 0, fv] w fun e w' => e = .returned (.int .i64 (-1)) ∧ Below w.heap.size w w' := by
  go_enter Tryz.func86, Tryz.ntmps86
  go_wp2
  go_loopw [5, 8] (fun _ t wr => t = .int .i64 0 ∧ w = wr) (fun _ _ _ => 0)
  case atStart => exact ⟨rfl, rfl⟩
  case round =>
    obtain ⟨rfl, rfl⟩ := hrel
    go_wp2
    go_ret
    exact ⟨rfl, Below.refl _ _⟩
theorem loads_none2 (fv : Value) (w : World) : Calls Tryz.prog 62 #[.slice none 0 0, fv] w fun e w' => e = .returned (.bool false) ∧ Below w.heap.size w w' := by
  have C := Lib.hid (loads_none fv w)
  go_enter Tryz.func62, Tryz.ntmps62
  go_wp2_with fail
  refine C.out.mono ?_; rintro e w1 ⟨rfl, hb⟩
  go_wp2
  go_ret
  exact ⟨rfl, hb⟩
theorem all_loads (p : Addr) (w : World) : Calls Tryz.prog 40 #[.slice none 0 0, .func (.func 38) #[] #[.pointer (some p)]] w fun e w' => e = .returned (.bool true) ∧ Below w.heap.size w w' := by
  have hx := ext_alloc w (.cells #[.func (.func 38) #[] #[.pointer (some p)]] 93)
  have C := Lib.hid (loads_none2 (.func (.func 63) #[] #[.pointer (some ⟨w.heap.size, 0, none⟩)]) (w.alloc (.cells #[.func (.func 38) #[] #[.pointer (some p)]] 93)))
  go_enter Tryz.func40, Tryz.ntmps40
  go_wp2_with fail
  refine C.out.mono ?_; rintro e w1 ⟨rfl, hb⟩
  go_wp2
  go_ret
  exact ⟨rfl, ext_trans hx hb⟩
theorem beams_none (p : Addr) (w : World) : Calls Tryz.prog 37 #[.agg #[.slice (some p) 1 1, .slice none 0 0, .int .i64 1000, .int .i64 1000, .int .i64 2000, .slice none 0 0]] w fun e w' => e = .returned (.bool true) ∧ Below w.heap.size w w' := by
  have mk : ∀ w, (Instr.makeSlice 23 (.int .i64 0) (.int .i64 0)).run Tryz.prog w = .ok (.slice (some ⟨w.heap.size, 0, none⟩) 0 0) (w.alloc (.cells #[] 3)) := fun _ => by kernel_rfl
  have hB := Blk.new w 58 [.slice (some p) 1 1, .slice none 0 0, .int .i64 1000, .int .i64 1000, .int .i64 2000, .slice none 0 0]
  have hx := ext_alloc w (.cells #[.slice (some p) 1 1, .slice none 0 0, .int .i64 1000, .int .i64 1000, .int .i64 2000, .slice none 0 0] 58)
  go_enter Tryz.func37, Tryz.ntmps37
  go_upto_region 1 with fail
  change Blk (w.alloc (.cells #[.slice (some p) 1 1, .slice none 0 0, .int .i64 1000, .int .i64 1000, .int .i64 2000, .slice none 0 0] 58)) _ _ _ at hB
  generalize w.alloc (.cells #[.slice (some p) 1 1, .slice none 0 0, .int .i64 1000, .int .i64 1000, .int .i64 2000, .slice none 0 0] 58) = W1 at *
  have hB2 := hB.alloc (.cells #[] 3)
  have hx2 := ext_trans hx (ext_alloc W1 (.cells #[] 3))
  have b1 : W1.cell? ⟨w.heap.size, 1, none⟩ = _ := hB.cell (i := 1) rfl
  go_upto_region 2 with fail
  generalize W1.alloc (.cells #[] 3) = W2 at *
  have b1 : W2.cell? ⟨w.heap.size, 1, none⟩ = _ := hB2.cell (i := 1) rfl
  go_wp2
  go_loopw [4, 5, 7, 15] (fun _ _ _ t wr => t = .int .i64 0 ∧ W2 = wr) (fun _ _ _ _ _ => 0)
  case atStart => exact ⟨rfl, rfl⟩
  case round =>
    obtain ⟨rfl, rfl⟩ := hrel
    go_wp2
    go_ret
    exact ⟨rfl, hx2⟩
theorem has_any (p : Addr) (n : Int) (w : World) : Calls Tryz.prog 22 #[.agg #[.slice (some p) 1 1, .slice none 0 0, .int .i64 1000, .int .i64 1000, .int .i64 2000, .slice none 0 0], .agg #[.int .i64 (-1), .int .i64 0], .int .i64 n] w fun e w' => e = .returned (.bool true) ∧ Below w.heap.size w w' := by
  have C := Lib.hid (fun V => rwithin_t (show (0 : Int) ≤ 0 ∧ (0 : Int) ≤ 0 by omega) V)
  have hx := ext_trans (ext_alloc w (.cells #[.slice (some p) 1 1, .slice none 0 0, .int .i64 1000, .int .i64 1000, .int .i64 2000, .slice none 0 0] 58)) (ext_alloc _ (.cells #[.int .i64 (-1), .int .i64 0] 60))
  go_enter Tryz.func22, Tryz.ntmps22
  go_wp2_with fail
  refine (C.out _).mono ?_; rintro e w1 ⟨rfl, rfl⟩
  go_wp2
  go_ret
  exact ⟨rfl, hx⟩
theorem rig_valid (p : Nat) (w : World) (h9 : w.cell? ⟨p, 0, none⟩ = some (.int .i64 9)) : Calls Tryz.prog 21 #[.agg #[.slice (some ⟨p, 0, none⟩) 1 1, .slice none 0 0, .int .i64 1000, .int .i64 1000, .int .i64 2000, .slice none 0 0]] w fun e w' => e = .returned (.bool true) ∧ Below w.heap.size w w' := by
  have hB := Blk.new w 58 [.slice (some ⟨p, 0, none⟩) 1 1, .slice none 0 0, .int .i64 1000, .int .i64 1000, .int .i64 2000, .slice none 0 0]
  have hx := ext_alloc w (.cells #[.slice (some ⟨p, 0, none⟩) 1 1, .slice none 0 0, .int .i64 1000, .int .i64 1000, .int .i64 2000, .slice none 0 0] 58)
  have h9' := cell_ext h9 hx
  have C0 := Lib.hid (fun V => rwithin_t (show (1 : Int) ≤ 1 ∧ (1 : Int) ≤ 12 by omega) V)
  go_enter Tryz.func21, Tryz.ntmps21
  go_upto_region 1 with fail
  change Blk (w.alloc (.cells #[.slice (some ⟨p, 0, none⟩) 1 1, .slice none 0 0, .int .i64 1000, .int .i64 1000, .int .i64 2000, .slice none 0 0] 58)) _ _ _ at hB
  generalize w.alloc (.cells #[.slice (some ⟨p, 0, none⟩) 1 1, .slice none 0 0, .int .i64 1000, .int .i64 1000, .int .i64 2000, .slice none 0 0] 58) = W1 at *
  have CA := Lib.hid (all_rint 36 #[] (fun _ => true) (some ⟨p, 0, none⟩) 1 1 [9] W1 (enters_of Tryz.func36 (by kernel_rfl) rfl) rfl (by omega) (fun i x hi => ⟨p, 0, rfl, fun j y hy => by
    have hi0 : i = 0 := by have := (List.getElem?_eq_some_iff.1 hi).1; simp at this; omega
    subst hi0
    have hj0 : j = 0 := by have := (List.getElem?_eq_some_iff.1 hy).1; simp [encI] at this; omega
    subst hj0
    simp at hi; subst hi
    simp [encI] at hy; subst hy
    exact h9'⟩) (force_ok [9] W1 (by simp)))
  rw [all_true] at CA
  have b0 : W1.cell? ⟨w.heap.size, 0, none⟩ = _ := hB.cell (i := 0) rfl
  go_wp2_with fail
  refine (C0.out _).mono ?_; rintro e w1 ⟨rfl, rfl⟩
  go_wp2_with fail
  refine CA.out.mono ?_; rintro e W2 ⟨rfl, hb2⟩
  clear b0 CA h9'
  have hB2 := hB.ext hb2
  have hx2 := ext_trans hx hb2
  have b0 : W2.cell? ⟨w.heap.size, 0, none⟩ = _ := hB2.cell (i := 0) rfl
  have b1 : W2.cell? ⟨w.heap.size, 1, none⟩ = _ := hB2.cell (i := 1) rfl
  have b2 : W2.cell? ⟨w.heap.size, 2, none⟩ = _ := hB2.cell (i := 2) rfl
  have b3 : W2.cell? ⟨w.heap.size, 3, none⟩ = _ := hB2.cell (i := 3) rfl
  have b4 : W2.cell? ⟨w.heap.size, 4, none⟩ = _ := hB2.cell (i := 4) rfl
  have b5 : W2.cell? ⟨w.heap.size, 5, none⟩ = _ := hB2.cell (i := 5) rfl
  go_wp2_with fail
  refine (beams_none _ _).mono ?_; rintro e W3 ⟨rfl, hb3⟩
  clear b0 b1 b2 b3 b4 b5
  have hB3 := hB2.ext hb3
  have hx3 := ext_trans hx2 hb3
  have b0 : W3.cell? ⟨w.heap.size, 0, none⟩ = _ := hB3.cell (i := 0) rfl
  have b2 : W3.cell? ⟨w.heap.size, 2, none⟩ = _ := hB3.cell (i := 2) rfl
  have b3 : W3.cell? ⟨w.heap.size, 3, none⟩ = _ := hB3.cell (i := 3) rfl
  have b4 : W3.cell? ⟨w.heap.size, 4, none⟩ = _ := hB3.cell (i := 4) rfl
  have b5 : W3.cell? ⟨w.heap.size, 5, none⟩ = _ := hB3.cell (i := 5) rfl
  have CF := Lib.hid (all_rint 39 #[] (fun _ => true) (some ⟨w.heap.size, 2, none⟩) 3 3 [1000, 1000, 2000] W3 (enters_of Tryz.func39 (by kernel_rfl) rfl) rfl (by omega) (fun i x hi => ⟨w.heap.size, 2, rfl, fun j y hy => by
    have hi0 := (List.getElem?_eq_some_iff.1 hi).1
    have hj0 : j = 0 := by have := (List.getElem?_eq_some_iff.1 hy).1; simp [encI] at this; omega
    subst hj0
    simp [encI] at hy; subst hy
    match i, hi0, hi with
    | 0, _, hi => simp at hi; subst hi; exact b2
    | 1, _, hi => simp at hi; subst hi; exact b3
    | 2, _, hi => simp at hi; subst hi; exact b4
    | k + 3, h, _ => simp at h; omega⟩) (factor_ok _ W3 (by simp)))
  rw [all_true] at CF
  go_wp2_with fail
  refine CF.out.mono ?_; rintro e W4 ⟨rfl, hb4⟩
  clear b0 b2 b3 b4 b5 CF
  have hB4 := hB3.ext hb4
  have hx4 := ext_trans hx3 hb4
  have b5 : W4.cell? ⟨w.heap.size, 5, none⟩ = _ := hB4.cell (i := 5) rfl
  go_wp2_with fail
  refine (all_loads _ _).mono ?_; rintro e W5 ⟨rfl, hb5⟩
  go_wp2
  go_ret
  exact ⟨rfl, ext_trans hx4 hb5⟩
end Go.Proofs.YtilkoooahoecfaaGreat.Rg
